/- Walks: lex.Lex. -/
import Derived.Test.YtminjdmgfiellaaDoorLexE
namespace Go.Proofs.YtminjdmgfiellaaDoor
open Go.RowKit

def tokCells (t : Lx.Tk) : List Value := [.string (bs t.kind), .string (bs t.text), .int .i64 t.pos]
def flat (l : List Lx.Tk) : List Value := l.flatMap tokCells
theorem flat_snoc (l : List Lx.Tk) (t : Lx.Tk) : flat (l ++ [t]) = flat l ++ tokCells t := by simp [flat]

/-- What Lex leaves: the tokens in a row of its own, or a fault at a place. -/
def LexPost (w : World) (s : ByteArray) (e : Ending) (w' : World) : Prop :=
  Below w.heap.size w w' ∧
  match Lx.lexAll s.data.toList with
  | .ok l => ∃ v, e = .returned (.tuple #[v, .nilIface]) ∧ w'.ownsRow w.heap.size 69 3 v l.length (flat l)
  | .error a => ∃ N v, e = .returned (.tuple #[.slice none 0 0, .iface 79 (.pointer (some ⟨N, 0, none⟩))]) ∧ w.heap.size ≤ N ∧ w.cell? ⟨4, 0, none⟩ = some v ∧ w'.heap[N]? = some (.cells #[.int .i64 a, v] 81 (0, 0))

theorem Tryd.infoTok : (Tryd.prog.info? 69).map (fun i => (i.zero, i.size, i.bytes)) = some (some (.agg #[.string ⟨#[]⟩, .string ⟨#[]⟩, .int .i64 0]), 3, 40) := by kernel_rfl
theorem grown_of_below {w w' : World} (hb : Below w.heap.size w w') : w.grownBy w' none := ⟨hb.os, hb.tape, hb.output, hb.size, fun k hk _ => hb.block k hk⟩
theorem owns_below {w w' : World} {base e size n : Nat} {v : Value} {xs : List Value} (h : w.ownsRow base e size v n xs) (hb : Below w.heap.size w w') : w'.ownsRow base e size v n xs :=
  h.kept (grown_of_below hb) (by cases hv : v.ownBlock <;> simp)

theorem heap_alloc2 (w : World) (a b : Obj) : ((w.alloc a).alloc b).heap[w.heap.size + 1]? = some b := by
  have := heap_alloc_new (w.alloc a) b
  rwa [World.size_alloc] at this
theorem cells3' (w : World) (o : Obj) (x y z : Value) (t : TypeId) : ∀ j u, [x, y, z][j]? = some u → ((w.alloc o).alloc (.cells #[x, y, z] t)).cell? ((⟨w.heap.size + 1, 0, none⟩ : Addr).add j) = some u := by
  have := cells3 (w.alloc o) x y z t
  rwa [World.size_alloc] at this

set_option maxHeartbeats 2000000 in
set_option maxRecDepth 100000 in
theorem Lex_any (H : Kn) (T : LexTabs H) (s : ByteArray) (hs : s.size ≤ 6000) (w : World) (hH : H.In w) :
    Calls Tryd.prog 23 #[.string s] w (LexPost w s) := by
  have hlen : s.data.toList.length = s.size := (Lib.size_eq s).symm
  have HLEN := Lib.hid hlen
  have hg0 := Lx.gap_le s.data.toList
  rw [hlen] at hg0
  clear hlen
  go_enter Tryd.func23, Tryd.ntmps23
  go_wp2_with fail
  refine (gap_any s (by unfold maxLen; omega) _).mono ?_
  rintro e w' ⟨rfl, rfl⟩
  go_wp2_with fail
  go_loopw [4, 5] (fun v i wr => ∃ (k : Nat) (acc : List Lx.Tk), i = .int .i64 k ∧ k ≤ s.size ∧ acc.length ≤ k ∧ wr.ownsRow w.heap.size 69 3 v acc.length (flat acc) ∧ Below w.heap.size w wr ∧ Lx.lexAll s.data.toList = Lx.onto acc (Lx.lexAt s.data.toList k)) (fun _ i _ => s.size - (intOf i).toNat)
  case atStart => exact ⟨Lx.gap s.data.toList, [], rfl, hg0, Nat.zero_le _, World.ownsRow_nil _ _ _ _, Below.refl _ _, by rw [Lx.onto_nil]; rfl⟩
  case round =>
    obtain ⟨k, acc, rfl, hk, hak, hown, hbr, hlex⟩ := hrel
    have HLX := Lib.hid hlex
    clear hlex
    by_cases hlt : k < s.size
    · have hne : 0 < (s.extract k s.size).size := by rw [tail_size]; omega
      have hw := hH.below hbr
      have hkl : k < s.data.toList.length := by rw [HLEN.out]; exact hlt
      go_wp2_with fail
      refine (one_any H T _ hne (by rw [tail_size]; omega) _ hw).mono ?_
      rintro e w1 ⟨rfl, hb⟩
      rw [tail_data]
      have hst := @Lx.onto_step s.data.toList k hkl
      have hbd := @Lx.lexAt_bad s.data.toList k hkl
      have hnx := @Lx.nextAt_le s.data.toList k hkl
      unfold Lx.nextAt at hnx
      unfold Lx.nextAt at hst
      unfold oneVal
      have hown1 := owns_below hown hb
      have hb1 : Below w.heap.size w w1 := hbr.trans (hb.mono hbr.size)
      have hz := hb.size
      have hz' := hbr.size
      generalize hr : Lx.one (s.data.toList.drop k) = r at *
      obtain ⟨⟨kd, tx, ps⟩, ok⟩ := r
      dsimp only at *
      cases ok
      · have HBD := Lib.hid (hbd rfl)
        clear hst hbd hnx hr
        obtain ⟨te, pe, ht⟩ := T.text
        have hct : w1.cell? ⟨4, 0, none⟩ = some (.iface te pe) := (hw.below hb).cell ht
        have hglt : 4 < w1.heap.size := Kn.cell_lt (hw.below hb) ht
        have HW0 := Lib.hid (hH.cell ht)
        clear ht
        go_wp2_with fail
        go_region
        all_goals go_wp2_with fail
        all_goals go_ret2
        all_goals refine ⟨?_, ?_⟩
        · go_grown
        · rw [HLX.out, HBD.out]
          exact ⟨w1.heap.size + 1, .iface te pe, rfl, by omega, HW0.out, heap_alloc2 _ _ _⟩
      · have HST := Lib.hid (hst rfl)
        have hnx' := hnx rfl
        have HNX := Lib.hid hnx'
        clear hst hbd hnx hr
        go_wp2_with (at_builtin; refine app1 62 69 3 40 _ Tryd.underlying62 Tryd.infoTok rfl (by decide) _ _ rfl rfl w.heap.size _ _ _ rfl ((hown1.alloc _).alloc _) ⟨w1.heap.size + 1, 0, none⟩ 1 (tokCells ⟨kd, tx, k⟩) rfl rfl ?c1 ?c2 ?c3 ?c4 ?c5 ?_)
        case c1 => exact cells3' _ _ _ _ _ _
        case c2 => simp [tokCells, Value.oneCell']
        case c3 => omega
        case c4 => omega
        case c5 => simp; omega
        intro v' w2 hown2 hg2
        have hcx : w2.cell? ⟨w1.heap.size, 1, none⟩ = some (.string (bs tx)) := hg2.cell (by simp) (fun e => by have := (hown1.lt _ e.symm).2; simp at this)
        have hsz : (bs tx).size = tx.length := by rw [Lib.size_eq, bs_data]
        rw [← hsz, HLEN.out] at hnx'
        have hn1 := hnx'.1
        have hn2 := hnx'.2.1
        have hn3 := hnx'.2.2
        have HSZ := Lib.hid hsz
        have hb2 : Below w.heap.size w w2 := ((hb1.alloc (by omega) _).alloc (by simp; omega) _).grown hg2 (by simp; omega) (fun j hj => (hown1.lt j hj).1)
        clear hsz hnx'
        generalize hgg : Lx.gap (s.data.toList.drop (k + (bs tx).size)) = g at *
        have HGG := Lib.hid hgg
        clear hgg
        go_wp2_with fail
        refine (gap_any _ (by rw [tail_size]; unfold maxLen; omega) _).mono ?_
        rintro e w' ⟨rfl, rfl⟩
        rw [tail_data, HGG.out]
        go_wp2_with fail
        go_roundw
        case rel => exact ⟨k + (bs tx).size + g, acc ++ [⟨kd, tx, k⟩], by go_num, by omega, by simp; omega, by rw [flat_snoc, List.length_append]; exact hown2, hb2, by rw [HLX.out, HST.out, HSZ.out.symm, HGG.out]⟩
        case measure => simp [intOf]; omega
    · have hlast : Lx.lexAll s.data.toList = .ok (acc ++ [⟨Lx.kEnd, [], s.size⟩]) := by
        rw [HLX.out, Lx.lexAt_end (by rw [HLEN.out]; omega) (by rw [HLEN.out]; omega), HLEN.out]; rfl
      have HLAST := Lib.hid hlast
      clear hlast HLX
      go_wp2_with (at_builtin; refine app1 62 69 3 40 _ Tryd.underlying62 Tryd.infoTok rfl (by decide) _ _ rfl rfl w.heap.size _ _ _ rfl (hown.alloc _) ⟨wr.heap.size, 0, none⟩ 1 (tokCells ⟨Lx.kEnd, [], s.size⟩) rfl rfl ?c1 ?c2 ?c3 ?c4 ?c5 ?_)
      case c1 => exact cells3 _ _ _ _ _
      case c2 => simp [tokCells, Value.oneCell']
      case c3 => omega
      case c4 => omega
      case c5 => have := hbr.size; simp; omega
      intro v' w1 hown1 hg1
      go_wp2_with fail
      go_ret2
      refine ⟨(hbr.alloc hbr.size _).grown hg1 (by have := hbr.size; simp; omega) (fun j hj => (hown.lt j hj).1), ?_⟩
      rw [HLAST.out]
      exact ⟨v', rfl, by rw [flat_snoc, List.length_append]; exact hown1⟩
end Go.Proofs.YtminjdmgfiellaaDoor
