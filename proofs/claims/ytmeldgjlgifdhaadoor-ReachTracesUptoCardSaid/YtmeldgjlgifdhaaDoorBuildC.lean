/- Walks: strings.Builder's copyCheck on a builder of the call's own. -/
import Derived.Test.YtmeldgjlgifdhaaDoorBuild
import Derived.Test.YtmeldgjlgifdhaaDoorKn
import Derived.Lib.FrozenHead
import Derived.Test.YtmeldgjlgifdhaaDoorBf
import Derived.Test.YtmeldgjlgifdhaaDoorVsA
import Derived.Lib.FrozenHead2
namespace Go.Proofs.YtmeldgjlgifdhaaDoor
set_option maxRecDepth 100000
set_option maxHeartbeats 16000000
open Go.RowKit
theorem Tryd.infoBuilder : (Tryd.prog.info? 157).map (fun i => i.size) = some 2 := by kernel_rfl
theorem Tryd.infoByte : (Tryd.prog.info? 5).map (fun i => (i.zero, i.size, i.bytes)) = some (some (.int .u8 0), 1, 1) := by kernel_rfl
theorem Tryd.liesBuilder : liesAt Tryd.prog Tryd.prog.depth 157 (2 / Tryd.prog.cellsOf 157) 0 157 1 = true := by kernel_rfl
theorem as_noEscape (x : Value) (w : World) : (callFunc 108 #[x]).run Tryd.prog w = .ok (.value x) w := by kernel_rfl
theorem copyCheck_used (b : Nat) (w : World) (h0 : w.cell? ⟨b, 0, none⟩ = some (.pointer (some ⟨b, 0, none⟩))) :
  Calls Tryd.prog 98 #[.pointer (some ⟨b, 0, none⟩)] w fun e w' => e = .returned (.tuple #[]) ∧ w = w' := by
 obtain ⟨j, hj, _⟩ := Option.map_eq_some_iff.1 Tryd.infoBuilder
 go_enter Tryd.func98, Tryd.ntmps98
 go_wp2
 rw [Lib.run_neq_ptr_same w _ Tryd.underlying154 hj]
 go_wp2
 go_end0
 exact ⟨rfl, rfl⟩
theorem copyCheck_fresh (b : Nat) (w : World) (h0 : w.cell? ⟨b, 0, none⟩ = some (.pointer none)) (hsh : w.shape? b = some (157, 2)) (hfz : w.frozen? ⟨b, 0, none⟩ = false) :
  Calls Tryd.prog 98 #[.pointer (some ⟨b, 0, none⟩)] w fun e w' => e = .returned (.tuple #[]) ∧ w.setCell ⟨b, 0, none⟩ (.pointer (some ⟨b, 0, none⟩)) = w' := by
 obtain ⟨j, hj, hjs⟩ := Option.map_eq_some_iff.1 Tryd.infoBuilder
 go_enter Tryd.func98, Tryd.ntmps98
 go_wp2
 rw [Lib.run_to_unsafe w ⟨b, 0, none⟩ Tryd.underlying154 Tryd.underlying196 hj (by rw [hjs]; decide) hsh (Nat.zero_lt_succ 1)]
 simp only [Result.andThen]
 rw [Oper.upon_value]
 go_wp2
 rw [as_noEscape]
 rw [Oper.upon_value]
 go_wp2
 rw [Lib.run_from_unsafe w ⟨b, 0, none⟩ Tryd.underlying196 Tryd.underlying154 hj hsh Tryd.liesBuilder]
 simp only [Result.andThen]
 rw [Oper.upon_value]
 go_wp2
 go_end0
 exact ⟨rfl, rfl⟩
def OthersK (b : Nat) (w w' : World) : Prop := ∀ (k : Nat) (c : Array Value) (T : TypeId) (fr : Nat × Nat), w.heap[k]? = some (.cells c T fr) → k ≠ b → T ≠ 5 → w'.heap[k]? = some (.cells c T fr)
theorem copyCheck_any (B b : Nat) (bs : List Value) (w : World) (h : Lib.IsBuilderF 157 5 B b bs w) :
  Calls Tryd.prog 98 #[.pointer (some ⟨b, 0, none⟩)] w fun e w' => e = .returned (.tuple #[]) ∧ (Lib.BuilderAtF 157 5 B b (.pointer (some ⟨b, 0, none⟩)) bs w' ∧ Below B w w' ∧ OthersK b w w') := by
 rcases h with h | h
 ·refine (copyCheck_fresh b w h.cell0 h.shape h.frozen0).mono ?_
  rintro e w' ⟨rfl, rfl⟩
  exact ⟨rfl, h.used _, (Below.refl B w).setCell (p := ⟨b, 0, none⟩) h.1 _, fun k c T fr hk hne _ => by rw [Below.heap_setCell w ⟨b, 0, none⟩ _ k hne]; exact hk⟩
 ·refine (copyCheck_used b w h.cell0).mono ?_
  rintro e w' ⟨rfl, rfl⟩
  exact ⟨rfl, h, Below.refl B _, fun k c T fr hk _ _ => hk⟩
end Go.Proofs.YtmeldgjlgifdhaaDoor
namespace Go.Proofs.YtmeldgjlgifdhaaDoor
set_option maxRecDepth 100000
set_option maxHeartbeats 16000000
open Go.RowKit Mx
abbrev IsB (B b : Nat) (bs : List Value) (w : World) : Prop := Lib.IsBuilderF 157 5 B b bs w
theorem own_belowF {w w' : World} {base : Nat} {e : TypeId} {k n : Nat} {v : Value} {xs : List Value} (h : w.ownsRowF base e k v n xs) (hb : Below w.heap.size w w') : w'.ownsRowF base e k v n xs := by
 refine ⟨h.1, h.2.imp id ?_⟩
 rintro ⟨g, cap, cur, fz, h1, h2, h3, h4⟩
 exact ⟨g, cap, cur, fz, h1, h2, by rw [hb.block _ (Array.getElem?_eq_some_iff.1 h3).1]; exact h3, h4⟩
theorem IsB.below {B b : Nat} {bs : List Value} {w w' : World} (h : IsB B b bs w) (hb : Below w.heap.size w w') : IsB B b bs w' := by
 have H : ∀ p, Lib.BuilderAtF 157 5 B b p bs w → Lib.BuilderAtF 157 5 B b p bs w' := fun p ⟨h1, v, h2, h3, h4⟩ =>
  ⟨h1, v, (hb.block b (Array.getElem?_eq_some_iff.1 h2).1).trans h2, own_belowF h3 hb, h4⟩
 exact h.imp (H _) (H _)
theorem writeByte_any (B b : Nat) (bs : List Value) (c : Int) (w : World) (h : IsB B b bs w) (hlen : bs.length + 1 ≤ 1000000000) (hBw : B ≤ w.heap.size) :
  Calls Tryd.prog 84 #[.pointer (some ⟨b, 0, none⟩), .int .u8 c] w fun e w' => e = .returned .nilIface ∧ IsB B b (bs ++ [.int .u8 c]) w' ∧ Below B w w' := by
 obtain ⟨i0, hi, hz0, hz1, hz2⟩ := info_parts Tryd.infoByte
 go_enter Tryd.func84, Tryd.ntmps84
 go_wp2_with fail
 refine (copyCheck_any B b bs _ h).mono ?_
 rintro e w1 ⟨rfl, h1, hb1, ho1⟩
 obtain ⟨hB, v, hbk, hown, hne⟩ := h1
 clear ho1
 have hlt : b < w1.heap.size := (Array.getElem?_eq_some_iff.1 hbk).1
 have hba : Below w1.heap.size w1 (w1.alloc (.cells #[.int .u8 c] 5)) := (Below.refl _ _).alloc (Nat.le_refl _) _
 have hbk2 := (hba.block b hlt).trans hbk
 have hown2 := own_belowF hown hba
 have c0 : w1.cell? ⟨b, 0, none⟩ = some (.pointer (some ⟨b, 0, none⟩)) := by rw [Lib.cell_of_heap hbk]; rfl
 have c1 : w1.cell? ⟨b, 1, none⟩ = some v := by rw [Lib.cell_of_heap hbk]; rfl
 have hsz := hb1.size
 have HBA := Lib.hid hba
 clear hba
 go_wp2_with (at_builtin; refine wpList_append_ownF _ rfl _ _ 155 rfl B 5 i0 (.int .u8 0) 1 1 Tryd.underlying155 hi hz0 hz1 hz2 rfl (by decide) _ _ _ rfl hown2 ⟨w1.heap.size, 0, none⟩ 1 1 [.int .u8 c] rfl rfl (cells1 _ _ _) (by simp [Value.oneCell']) ?c3 ?c4 ?c5 ?_)
 case c3 => unfold maxLen; omega
 case c4 => omega
 case c5 => simp; omega
 intro v' w2 hown' hgrow _
 have hb2 : w2.heap[b]? = some (.cells #[.pointer (some ⟨b, 0, none⟩), v] 157 (0, 0)) := by
  rw [hgrow.block b (by simp; omega) (fun e => hne e.symm)]
  exact hbk2
 have d0 : w2.cell? ⟨b, 0, none⟩ = some (.pointer (some ⟨b, 0, none⟩)) := by rw [Lib.cell_of_heap hb2]; rfl
 have d1 : w2.cell? ⟨b, 1, none⟩ = some v := by rw [Lib.cell_of_heap hb2]; rfl
 have f1 : w2.frozen? ⟨b, 1, none⟩ = false := Lib.frozen_of_heap hb2 1
 have hbb : Below B w w2 := (hb1.trans (HBA.out.mono (by omega))).grown hgrow (by simp; omega) (fun k hk => (hown.lt k hk).1)
 obtain ⟨ao, n', cap, rfl⟩ : ∃ ao n' cap, v' = .slice ao n' cap := by
  rcases hown'.2 with ⟨hv, _⟩ | ⟨g, cap, cur, fz, hv, _⟩
  ·exact ⟨_, _, _, hv⟩
  ·exact ⟨_, _, _, hv⟩
 go_wp2_with fail
 go_ret
 refine ⟨rfl, .inr ?_, hbb.setCell (p := ⟨b, 1, none⟩) hB _⟩
 exact Lib.BuilderAtF.put (T := 157) (e := 5) hB hb2 (bs' := bs ++ [.int .u8 c]) (by simpa using hown') (by decide)
theorem byteV_toNat (v : Vl) : ((byteV v).toNat : Int) = v.n % 256 := by
 unfold byteV
 simp only [UInt8.toNat_ofNat']
 omega
theorem byteCells_take (l : List Vl) (k : Nat) (h : k < l.length) : Lib.byteCells ((l.take (k + 1)).map byteV) = Lib.byteCells ((l.take k).map byteV) ++ [.int .u8 (l[k].n % 256)] := by
 rw [List.take_succ_eq_append_getElem h, List.map_append]
 unfold Lib.byteCells
 rw [List.map_append]
 simp [byteV_toNat]
theorem key_any (H : Kn) (l : List Vl) (v : Value) (hv : VlsV H l v) (hl : l.length ≤ 100000000) (w : World) (hH : H.In w) :
  Calls Tryd.prog 59 #[v] w fun r w' => r = .returned (.string (keyB l)) ∧ Below w.heap.size w w' := by
 obtain ⟨a, c, rfl⟩ := hv.len
 have HV := Lib.hid hv
 have hb0 : Below w.heap.size w (w.alloc (.cells #[.pointer none, .slice none 0 0] 157)) := (Below.refl _ _).alloc (Nat.le_refl _) _
 have hB0 : IsB w.heap.size w.heap.size [] (w.alloc (.cells #[.pointer none, .slice none 0 0] 157)) :=
  .inl ⟨Nat.le_refl _, .slice none 0 0, heap_alloc_new w _, ⟨by simp, .inl ⟨rfl, rfl⟩⟩, by simp [Value.ownBlock]⟩
 have HB0 := Lib.hid hb0
 have HI0 := Lib.hid hB0
 clear hv hb0 hB0
 go_enter Tryd.func59, Tryd.ntmps59
 go_wp2_with fail
 go_loopw [8] (fun i wr => ∃ k : Nat, i = .int .i64 k ∧ k ≤ l.length ∧ Below w.heap.size w wr ∧ IsB w.heap.size w.heap.size (Lib.byteCells ((l.take k).map byteV)) wr) (fun i _ => l.length - (intOf i).toNat)
 case atStart => exact ⟨0, rfl, Nat.zero_le _, HB0.out, HI0.out⟩
 case round =>
  obtain ⟨k, rfl, hk, hb, hI⟩ := hrel
  have HB := Lib.hid hb
  have HI := Lib.hid hI
  clear hb hI
  by_cases hkl : k < l.length
  ·obtain ⟨b, off, haf, e0, e1⟩ := vl_at2 HV.out hkl
   subst haf
   have e0 := (hH.below HB.out).cell e0
   have e1 := (hH.below HB.out).cell e1
   have hN := byteCells_take l k hkl
   have HN := Lib.hid hN
   have HL := Lib.hid (show (Lib.byteCells ((l.take k).map byteV)).length = k from by simp [Lib.byteCells, Nat.min_eq_left hk])
   clear hN
   generalize l[k] = x at *
   obtain ⟨xk, xn⟩ := x
   dsimp only at e0 e1 HN
   generalize Lib.byteCells ((l.take k).map byteV) = bs at *
   have hba : Below wr.heap.size wr (wr.alloc (.cells #[.int .i64 xk, .int .i64 xn] 142)) := (Below.refl _ _).alloc (Nat.le_refl _) _
   have HI2 := Lib.hid (IsB.below HI.out hba)
   have HB2 := Lib.hid (HB.out.trans (hba.mono HB.out.size))
   have hszr := HB.out.size
   clear hba
   go_wp2_with fail
   refine (writeByte_any w.heap.size w.heap.size bs (xn % 256) _ HI2.out (by have := HL.out; omega) (by simp; omega)).mono ?_
   rintro r w2 ⟨rfl, hI2, hb2⟩
   have HI3 := Lib.hid (show IsB w.heap.size w.heap.size (Lib.byteCells ((l.take (k + 1)).map byteV)) w2 from by rw [HN.out]; exact hI2)
   have HB3 := Lib.hid (HB2.out.trans hb2)
   clear hI2 hb2
   go_wp2_with fail
   go_roundw
   case rel => exact ⟨k + 1, by go_num, by omega, HB3.out, HI3.out⟩
   case measure => simp [intOf]; omega
  ·obtain rfl : k = l.length := by omega
   have hI := HI.out
   rw [List.take_of_length_le (Nat.le_refl _)] at hI
   go_wp2_with fail
   refine (Tryd.Builder_String_any_f _ _ _ _ hI HB.out.size).mono ?_
   rintro r w2 ⟨rfl, _, hb2⟩
   go_wp2_with fail
   go_ret
   exact ⟨rfl, HB.out.trans hb2⟩
end Go.Proofs.YtmeldgjlgifdhaaDoor
