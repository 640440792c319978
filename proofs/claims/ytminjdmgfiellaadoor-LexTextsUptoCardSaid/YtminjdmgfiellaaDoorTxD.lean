/- Walks: lustrumref1.TokensText. -/
import Derived.Test.YtminjdmgfiellaaDoorTxC
namespace Go.Proofs.YtminjdmgfiellaaDoor
open Go.RowKit

def TTPost (w : World) (l : List Lx.TI) (e : Ending) (w' : World) : Prop :=
  Below w.heap.size w w' ∧ ((Lx.good l ∧ e = .returned (.tuple #[.string (bs (Lx.joinT l.dropLast)), .bool true])) ∨ (¬ Lx.good l ∧ e = .returned (.tuple #[.string ⟨#[]⟩, .bool false])))

theorem str_add (a b c : ByteArray) (h : c = a ++ b) (hs : a.size + b.size ≤ 9223372036854775807) (w : World) : (Op.stringOp .add a b).run Tryd.prog w = .ok (.string c) w := by
  subst h
  exact run_string_add_sum (P := Tryd.prog) w a b hs
theorem bs_app (a b : Lx.B) : bs (a ++ b) = bs a ++ bs b := by rw [← bs_of (bs a ++ bs b)]; congr 1

set_option maxHeartbeats 1000000 in
set_option maxRecDepth 100000 in
theorem TT_nil (v : Value) (w : World) (hv : TisW w v []) :
    Calls Tryd.prog 21 #[v] w (TTPost w []) := by
  obtain ⟨o, cap, rfl⟩ := hv.len
  go_enter Tryd.func21, Tryd.ntmps21
  go_wp2_with fail
  go_loop [4, 5] (fun o i => i = .int .i64 0 ∧ o = .string ⟨#[]⟩) (fun _ _ => 0)
  case atStart => exact ⟨rfl, rfl⟩
  case round =>
  obtain ⟨rfl, rfl⟩ := hrel
  go_wp2_with fail
  refine (LexOf_any ⟨#[]⟩ (by decide) _).mono ?_
  rintro e w1 ⟨hb1, hp⟩
  rw [show (⟨#[]⟩ : ByteArray).data.toList = [] from rfl, lex_nil] at hp
  obtain ⟨v', rfl, hrow⟩ := hp
  obtain ⟨g2, cap2, rfl, m1, m2, m3, m4⟩ := ToksW.of_any (by simp) hrow
  have hz1 := hb1.size
  clear m4 hrow
  go_wp2_with fail
  go_ret2
  exact ⟨by go_grown, .inr ⟨not_good_nil, rfl⟩⟩

set_option maxHeartbeats 4000000 in
set_option maxRecDepth 100000 in
theorem TT_any (v : Value) (l : List Lx.TI) (hne : l ≠ []) (w : World) (hv : TisW w v l) (hl : l.length ≤ 1048576) (ht : ∀ t ∈ l, t.text.length ≤ 1048576) :
    Calls Tryd.prog 21 #[v] w (TTPost w l) := by
  rcases hv with ⟨h, _⟩ | ⟨g, off, cap, rfl, h1, h2, h3, h4⟩
  · exact absurd h hne
  have H4 := Lib.hid h4
  have HTX := Lib.hid ht
  clear h4 ht
  unfold maxLen at h2
  have hpos : 0 < l.length := List.length_pos_iff.2 hne
  go_enter Tryd.func21, Tryd.ntmps21
  go_wp2_with fail
  go_loop [4, 5] (fun o i => ∃ k : Nat, i = .int .i64 k ∧ k + 1 ≤ l.length ∧ o = .string (bs (Lx.joinT (l.take k))) ∧ (Lx.joinT (l.take k)).length ≤ 6000) (fun _ i => l.length - (intOf i).toNat)
  case atStart => exact ⟨0, rfl, by omega, rfl, Nat.zero_le _⟩
  case round =>
    obtain ⟨k, rfl, hk, rfl, hsz⟩ := hrel
    by_cases hlt : k + 1 < l.length
    · have hkl : k < l.length := by omega
      have c1 := (H4.out k hkl).2.1
      have htl := HTX.out l[k] (List.getElem_mem hkl)
      have hj := Lx.joinT_take hkl
      have HLONG : Hid (6000 < (Lx.joinT (l.take (k + 1))).length → ¬ Lx.good l) := Lib.hid (Lx.not_good_long hkl (fun h => by omega))
      have hs1 : (bs (Lx.joinT (l.take k))).size = (Lx.joinT (l.take k)).length := by rw [Lib.size_eq, bs_data]
      have hs2 : (bs l[k].text).size = l[k].text.length := by rw [Lib.size_eq, bs_data]
      have hs3 : (bs (Lx.joinT (l.take (k + 1)))).size = (Lx.joinT (l.take (k + 1))).length := by rw [Lib.size_eq, bs_data]
      have he0 : k = 0 → Lx.joinT (l.take k) = [] := fun h => by rw [h]; rfl
      have ha0 : k = 0 → ∀ w, (Op.stringOp .add (bs (Lx.joinT (l.take k))) (bs l[k].text)).run Tryd.prog w = .ok (.string (bs (Lx.joinT (l.take (k + 1))))) w := fun hk0 w =>
        str_add _ _ _ (by rw [hj, if_pos hk0, he0 hk0, ← bs_app]; rfl) (by omega) w
      have ha1 : ∀ w, (Op.stringOp .add (bs (Lx.joinT (l.take k))) ⟨#[32]⟩).run Tryd.prog w = .ok (.string (bs (Lx.joinT (l.take k) ++ [32]))) w := fun w =>
        str_add _ _ _ (by rw [bs_app]; rfl) (by rw [hs1]; show _ + 1 ≤ _; omega) w
      have ha2 : k ≠ 0 → ∀ w, (Op.stringOp .add (bs (Lx.joinT (l.take k) ++ [32])) (bs l[k].text)).run Tryd.prog w = .ok (.string (bs (Lx.joinT (l.take (k + 1))))) w := fun hk0 w =>
        str_add _ _ _ (by rw [hj, if_neg hk0, ← bs_app]; simp) (by rw [hs2, Lib.size_eq, bs_data]; simp; omega) w
      have HS3 := Lib.hid hs3
      clear hs1 hs2 hs3 hj
      generalize l[k] = t at *
      obtain ⟨kd, tx, at_⟩ := t
      dsimp only at *
      by_cases hbig : 6000 < (Lx.joinT (l.take (k + 1))).length
      · have hbigI : (6000 : Int) < (bs (Lx.joinT (l.take (k + 1)))).size := by rw [HS3.out]; omega
        by_cases hk0 : k = 0
        · have hkn : ¬ (0 : Int) < k := by omega
          have a0 := ha0 hk0
          clear ha0 ha1 ha2 hk0 he0
          go_wp2_with fail
          go_ret2
          exact ⟨Below.refl _ _, .inr ⟨HLONG.out hbig, rfl⟩⟩
        · have hkp : (0 : Int) < k := by omega
          have a2 := ha2 hk0
          clear ha0 ha2 hk0 he0
          go_wp2_with fail
          go_ret2
          exact ⟨Below.refl _ _, .inr ⟨HLONG.out hbig, rfl⟩⟩
      · have hbigI : ¬ (6000 : Int) < (bs (Lx.joinT (l.take (k + 1)))).size := by rw [HS3.out]; omega
        by_cases hk0 : k = 0
        · have hkn : ¬ (0 : Int) < k := by omega
          have a0 := ha0 hk0
          clear ha0 ha1 ha2 hk0 he0
          go_wp2_with fail
          go_round
          case rel => exact ⟨k + 1, by go_num, by omega, rfl, by omega⟩
          case measure => simp [intOf]; omega
        · have hkp : (0 : Int) < k := by omega
          have a2 := ha2 hk0
          clear ha0 ha2 hk0 he0
          go_wp2_with fail
          go_round
          case rel => exact ⟨k + 1, by go_num, by omega, rfl, by omega⟩
          case measure => simp [intOf]; omega
    · have hk1 : k = l.length - 1 := by omega
      have hout : Lx.joinT (l.take k) = Lx.joinT l.dropLast := by rw [Lx.dropLast_take, hk1]
      rw [hout] at hsz ⊢
      have hgd : Lx.good l ↔ ∃ m, Lx.lexAll (Lx.joinT l.dropLast) = .ok m ∧ m.map Lx.ktk = l.map Lx.kti := ⟨fun g => g.2, fun m => ⟨hsz, m⟩⟩
      have HGD := Lib.hid hgd
      generalize hO : Lx.joinT l.dropLast = out at *
      have HO := Lib.hid hO
      clear hO
      have HK1 := Lib.hid hk1
      clear hout hgd hk1
      have hout6 : (bs out).size ≤ 6000 := by rw [Lib.size_eq, bs_data]; exact hsz
      go_wp2_with fail
      refine (LexOf_any (bs out) hout6 _).mono ?_
      rintro e w1 ⟨hb1, hp⟩
      rw [bs_data] at hp
      have hz1 := hb1.size
      cases hlx : Lx.lexAll out with
      | error a =>
        rw [hlx] at hp
        have hp' : e = .returned (.tuple #[.slice none 0 0, .agg #[.int .i64 1, .int .i64 a]]) := hp
        subst hp'
        have HLX := Lib.hid hlx
        clear hp hlx
        go_wp2_with fail
        go_ret2
        exact ⟨by go_grown, .inr ⟨(fun gd => by obtain ⟨m, x1, _⟩ := HGD.out.1 gd; rw [HLX.out] at x1; cases x1), rfl⟩⟩
      | ok m =>
        rw [hlx] at hp
        obtain ⟨v', rfl, hrow⟩ := hp
        have hml := (lexN_many _ out _ m (Nat.le_refl _) (Lx.gap_le _) hlx).1
        obtain ⟨g2, cap2, rfl, m1, m2, m3, m4⟩ := ToksW.of_any (lexAll_ne hlx) hrow
        have HLX := Lib.hid hlx
        have M4 := Lib.hid m4
        clear hlx hrow m4
        by_cases hlm : m.length = l.length
        · have HLM := Lib.hid hlm
          rw [hlm] at m1 ⊢
          clear hlm
          go_wp2_with fail
          have hW1 : Below w.heap.size w (w1.alloc (.cells #[.int .i64 0, .int .i64 (-1)] 42)) := hb1.alloc hb1.size _
          generalize hWW : w1.alloc (.cells #[.int .i64 0, .int .i64 (-1)] 42) = W at *
          have hbW : Below w1.heap.size w1 W := by rw [← hWW]; exact (Below.refl _ _).alloc (Nat.le_refl _) _
          clear hWW
          go_loopw [8] (fun i wr => ∃ (j n : Nat), i = .int .i64 j ∧ j ≤ l.length ∧ (m.take j).map Lx.ktk = (l.take j).map Lx.kti ∧ wr = W.drewN n) (fun i _ => l.length - (intOf i).toNat)
          case atStart => exact ⟨0, 0, rfl, Nat.zero_le _, rfl, rfl⟩
          case round =>
            obtain ⟨j, n, rfl, hj, heq, rfl⟩ := hrel
            have HE := Lib.hid heq
            clear heq
            by_cases hjl : j < l.length
            · have hjm : j < m.length := by rw [HLM.out]; exact hjl
              obtain ⟨c0, c1, _⟩ := H4.out j hjl
              obtain ⟨d0, d1, _⟩ := M4.out j hjm
              rw [← hW1.cell (p := ⟨g, off + j * 3, none⟩) h3] at c0
              rw [← hW1.cell (p := ⟨g, off + j * 3 + 1, none⟩) h3] at c1
              rw [← hbW.cell (p := ⟨g2, j * 3, none⟩) m3] at d0
              rw [← hbW.cell (p := ⟨g2, j * 3 + 1, none⟩) m3] at d1
              have HT1 := Lib.hid (List.take_succ_eq_append_getElem hjl)
              have HT2 := Lib.hid (List.take_succ_eq_append_getElem hjm)
              have HN : Hid (m.map Lx.ktk = l.map Lx.kti → Lx.ktk m[j] = Lx.kti l[j]) := Lib.hid (fun e => by
                have e2 : (m.map Lx.ktk)[j]? = (l.map Lx.kti)[j]? := by rw [e]
                rw [List.getElem?_map, List.getElem?_map, List.getElem?_eq_getElem hjl, List.getElem?_eq_getElem hjm] at e2
                exact Option.some.inj e2)
              generalize l[j] = t1 at *
              generalize m[j] = t2 at *
              have q1 := bs_beq t2.kind t1.kind
              have q2 := bs_beq t2.text t1.text
              have Q1 := Lib.hid q1
              have Q2 := Lib.hid q2
              clear q1 q2
              cases e1 : ((bs t2.kind).toList == (bs t1.kind).toList)
              · have hng : ¬ Lx.good l := fun gd => by
                  obtain ⟨m', x1, x2⟩ := HGD.out.1 gd
                  rw [HLX.out] at x1; cases x1
                  have e3 : t2.kind = t1.kind := congrArg Prod.fst (HN.out x2)
                  rw [Q1.out, e3] at e1; simp at e1
                have HNG := Lib.hid hng
                clear hng
                go_wp2_with fail
                go_quiet (fail)
                go_wp2_with fail
                go_ret2
                exact ⟨below_drewN (below_drewN hW1 _) _, .inr ⟨HNG.out, rfl⟩⟩
              · cases e2 : ((bs t2.text).toList == (bs t1.text).toList)
                · have hng : ¬ Lx.good l := fun gd => by
                    obtain ⟨m', x1, x2⟩ := HGD.out.1 gd
                    rw [HLX.out] at x1; cases x1
                    have e3 : t2.text = t1.text := congrArg Prod.snd (HN.out x2)
                    rw [Q2.out, e3] at e2; simp at e2
                  have HNG := Lib.hid hng
                  clear hng
                  go_wp2_with fail
                  go_quiet (fail)
                  go_wp2_with fail
                  go_ret2
                  exact ⟨below_drewN (below_drewN hW1 _) _, .inr ⟨HNG.out, rfl⟩⟩
                · have hs : Lx.ktk t2 = Lx.kti t1 := by
                    rw [Q1.out] at e1
                    rw [Q2.out] at e2
                    exact Prod.ext (of_decide_eq_true e1) (of_decide_eq_true e2)
                  have HS := Lib.hid hs
                  clear hs
                  go_wp2_with fail
                  go_quiet (fail)
                  go_wp2_with fail
                  go_roundw
                  case rel => exact ⟨j + 1, n + nq, by go_num, by omega, by rw [HT1.out, HT2.out, List.map_append, List.map_append, HE.out, List.map_singleton, List.map_singleton, HS.out], rfl⟩
                  case measure => simp [intOf]; omega
            · obtain rfl : j = l.length := by omega
              have heq := HE.out
              rw [List.take_length, ← HLM.out, List.take_length] at heq
              have HG := Lib.hid (HGD.out.2 ⟨m, HLX.out, heq⟩)
              clear heq
              go_wp2_with fail
              go_ret2
              exact ⟨below_drewN hW1 _, .inl ⟨HG.out, by rw [HO.out]; rfl⟩⟩
        · have hI : ((m.length : Int) == (l.length : Int)) = false := by rw [beq_eq_false_iff_ne]; omega
          go_wp2_with fail
          go_ret2
          exact ⟨by go_grown, .inr ⟨(fun gd => by obtain ⟨m', x1, x2⟩ := HGD.out.1 gd; rw [HLX.out] at x1; cases x1; exact hlm (by have := congrArg List.length x2; simpa using this)), rfl⟩⟩
end Go.Proofs.YtminjdmgfiellaaDoor
