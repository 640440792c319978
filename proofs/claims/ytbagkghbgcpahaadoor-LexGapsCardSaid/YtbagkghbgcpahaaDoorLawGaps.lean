/- The walk of lustrumlaw1.LexGaps: it returns true. -/
import Derived.Test.YtbagkghbgcpahaaDoorLawA
import Derived.Test.YtbagkghbgcpahaaDoorGapMath
namespace Go.Proofs.YtbagkghbgcpahaaDoor
open Go.RowKit

/-- Which gap, by the law's second argument. -/
def gapNo (x : Int) : Int := if x.tmod 4 < 0 then x.tmod 4 + 4 else x.tmod 4
theorem gapNo_lt (x : Int) : 0 ≤ gapNo x ∧ gapNo x < 4 := by
  unfold gapNo
  have h1 := Int.lt_tmod_of_pos x (b := 4) (by omega)
  have h2 := Int.tmod_lt_of_pos x (b := 4) (by omega)
  split <;> omega

set_option maxHeartbeats 1000000 in
set_option maxRecDepth 100000 in
theorem gaps_long (H : Kn) (T : LexTabs H) (s : ByteArray) (x : Int) (hs : ¬ s.size ≤ 1500) (hm : s.size ≤ maxLen) (w : World) (hH : H.In w) :
    Calls Tryd.prog 7 #[.string s, .int .i64 x] w fun e w' => e = .returned (.bool true) ∧ Below w.heap.size w w' := by
  unfold maxLen at hm
  have hlong : (1500 : Int) < s.size := by omega
  go_enter Tryd.func7, Tryd.ntmps7
  go_wp2_with fail
  refine (one_fact H T _ hH).mono ?_
  rintro e w1 ⟨rfl, hb⟩
  go_wp2_with fail
  go_ret
  exact ⟨rfl, hb⟩

set_option maxHeartbeats 1000000 in
set_option maxRecDepth 100000 in
theorem gaps_bad (H : Kn) (T : LexTabs H) (s : ByteArray) (x : Int) (hs : s.size ≤ 1500) (w : World) (hH : H.In w) {a : Nat} (hl : Lx.lexAll s.data.toList = .error a) :
    Calls Tryd.prog 7 #[.string s, .int .i64 x] w fun e w' => e = .returned (.bool true) ∧ Below w.heap.size w w' := by
  have HL := Lib.hid hl
  clear hl
  have hshort : (s.size : Int) ≤ 1500 := by omega
  go_enter Tryd.func7, Tryd.ntmps7
  go_wp2_with fail
  refine (one_fact H T _ hH).mono ?_
  rintro e w1 ⟨rfl, hb⟩
  go_wp2_with fail
  refine (Lex_bad H T s (by omega) _ (hH.below hb) HL.out).mono ?_
  rintro e w2 ⟨N, v, rfl, _, _, _, hb2⟩
  go_wp2_with fail
  go_ret
  exact ⟨rfl, hb.trans (hb2.mono hb.size)⟩

theorem bs_append (a b : Lx.B) : bs a ++ bs b = bs (a ++ b) := by
  rw [← bs_of (bs a ++ bs b)]; congr 1
theorem bs_size (a : Lx.B) : (bs a).size = a.length := by rw [Lib.size_eq, bs_data]
theorem gap_key (x : Int) : ∃ k : Nat, k < 4 ∧ ((x.tmod 4 < 0 ∧ x.tmod 4 + 4 = k) ∨ (0 ≤ x.tmod 4 ∧ x.tmod 4 = k)) := by
  have h1 := Int.lt_tmod_of_pos x (b := 4) (by omega)
  have h2 := Int.tmod_lt_of_pos x (b := 4) (by omega)
  by_cases h : x.tmod 4 < 0
  · exact ⟨(x.tmod 4 + 4).toNat, by omega, .inl ⟨h, by omega⟩⟩
  · exact ⟨(x.tmod 4).toNat, by omega, .inr ⟨by omega, by omega⟩⟩
theorem gap_cell (k : Nat) (hk : k < 4) : (#[Value.string ⟨#[32, 32]⟩, .string ⟨#[10]⟩, .string ⟨#[32, 45, 45, 120, 10]⟩, .string ⟨#[10, 10, 45, 45, 10, 32]⟩] : Array Value)[k]? = some (.string (bs (Lx.gaps[k]'hk))) := by
  match k, hk with
  | 0, _ => rfl
  | 1, _ => rfl
  | 2, _ => rfl
  | 3, _ => rfl
theorem gaps_len (G : Lx.B) (h : G ∈ Lx.gaps) : G.length ≤ 6 := by
  simp only [Lx.gaps, List.mem_cons, List.not_mem_nil, or_false] at h
  rcases h with rfl | rfl | rfl | rfl <;> decide
theorem ahead_snoc (G : Lx.B) (l : List Lx.Tk) (i : Nat) (h : i < l.length) : Lx.ahead G (l.take (i + 1)) = Lx.ahead G (l.take i) ++ G ++ l[i].text := by
  rw [List.take_succ_eq_append_getElem h, Lx.ahead, Lx.ahead, List.flatMap_append]
  simp
theorem lexN_sizes (f : Nat) : ∀ s k l, s.length + 1 - k ≤ f → k ≤ s.length → Lx.lexN f s k = .ok l → l.length ≤ s.length + 1 - k ∧ ∀ t ∈ l, t.text.length ≤ s.length := by
  induction f with
  | zero => intro s k l h1 h2; omega
  | succ f ih =>
    intro s k l h1 h2 h
    simp only [Lx.lexN] at h
    split at h
    · rename_i hk
      split at h
      · rename_i ho
        have hn := Lx.nextAt_le hk ho
        have hok := (Lx.one_ok ho).2.1
        unfold Lx.nextAt at hn
        simp only [List.length_drop] at hok
        split at h
        · rename_i l' hl'
          cases h
          have := ih s _ l' (by omega) (by omega) hl'
          refine ⟨by simp only [List.length_cons]; omega, fun t ht => ?_⟩
          rcases List.mem_cons.1 ht with rfl | ht
          · dsimp only; omega
          · exact this.2 t ht
        · cases h
      · cases h
    · cases h
      exact ⟨by simp; omega, by simp⟩
theorem ahead_len (G : Lx.B) (hG : G.length ≤ 6) (ts : List Lx.Tk) (n : Nat) (h : ∀ t ∈ ts, t.text.length ≤ n) : (Lx.ahead G ts).length ≤ ts.length * (n + 6) := by
  induction ts with
  | nil => simp [Lx.ahead]
  | cons t ts ih =>
    have h1 := ih (fun x hx => h x (by simp [hx]))
    have h2 := h t (by simp)
    have e : Lx.ahead G (t :: ts) = G ++ t.text ++ Lx.ahead G ts := by simp [Lx.ahead]
    rw [e, List.length_append, List.length_append, List.length_cons, Nat.add_mul]
    omega

set_option maxHeartbeats 2000000 in
set_option maxRecDepth 100000 in
theorem gaps_good (H : Kn) (T : LexTabs H) (s : ByteArray) (x : Int) (hs : s.size ≤ 1500) (w : World) (hH : H.In w) {l : List Lx.Tk} (hl : Lx.lexAll s.data.toList = .ok l) :
    Calls Tryd.prog 7 #[.string s, .int .i64 x] w fun e w' => e = .returned (.bool true) ∧ Below w.heap.size w w' := by
  have hsz := lexN_sizes _ s.data.toList _ l (Nat.le_refl _) (Lx.gap_le _) hl
  rw [← Lib.size_eq] at hsz
  have hne := lexAll_ne hl
  have hl1 : 1 ≤ l.length := by cases l with
    | nil => exact absurd rfl hne
    | cons a l => simp
  have hl2 : l.length ≤ 1501 := by omega
  have HTX := Lib.hid hsz.2
  have HL := Lib.hid hl
  clear hl hsz hne
  have hshort : (s.size : Int) ≤ 1500 := by omega
  obtain ⟨κ, hκ, hkey⟩ := gap_key x
  have hκ0 : (0 : Int) ≤ κ := by omega
  have hκ4 : (κ : Int) < 4 := by omega
  rcases hkey with ⟨hn, hk⟩ | ⟨hn, hk⟩
  all_goals
    have hm1 := Int.lt_tmod_of_pos x (b := 4) (by omega)
    have hm2 := Int.tmod_lt_of_pos x (b := 4) (by omega)
    have HK := Lib.hid hk
    clear hk
    go_enter Tryd.func7, Tryd.ntmps7
    go_wp2_with fail
    refine (one_fact H T _ hH).mono ?_
    rintro e w1 ⟨rfl, hb⟩
    go_wp2_with fail
    refine (Lex_ok H T s (by omega) _ (hH.below hb) HL.out).mono ?_
    rintro e w2 ⟨v, rfl, htk, hb2⟩
    obtain ⟨g, cap, rfl, h1, h2, h3, h4⟩ := id htk
    clear h4
    go_wp2_with fail
    rw [HK.out]
    have hcell : (w2.alloc (.cells #[.string ⟨#[32, 32]⟩, .string ⟨#[10]⟩, .string ⟨#[32, 45, 45, 120, 10]⟩, .string ⟨#[10, 10, 45, 45, 10, 32]⟩] 9)).cell? ⟨w2.heap.size, κ, none⟩ = some (.string (bs (Lx.gaps[κ]'hκ))) := by
      rw [World.cell?_alloc_new]; exact gap_cell κ hκ
    have hbW : Below w.heap.size w (w2.alloc (.cells #[.string ⟨#[32, 32]⟩, .string ⟨#[10]⟩, .string ⟨#[32, 45, 45, 120, 10]⟩, .string ⟨#[10, 10, 45, 45, 10, 32]⟩] 9)) := by
      have := hb.trans (hb2.mono hb.size)
      exact this.alloc (this.size) _
    have htkW := htk.below ((Below.refl _ _).alloc (Nat.le_refl _) (.cells #[.string ⟨#[32, 32]⟩, .string ⟨#[10]⟩, .string ⟨#[32, 45, 45, 120, 10]⟩, .string ⟨#[10, 10, 45, 45, 10, 32]⟩] 9))
    generalize hWW : w2.alloc (.cells #[.string ⟨#[32, 32]⟩, .string ⟨#[10]⟩, .string ⟨#[32, 45, 45, 120, 10]⟩, .string ⟨#[10, 10, 45, 45, 10, 32]⟩] 9) = W at *
    generalize hB : w2.heap.size = B at *
    clear hWW hB htk
    have hG6 := gaps_len _ (List.getElem_mem (l := Lx.gaps) hκ)
    have HGM := Lib.hid (List.getElem_mem (l := Lx.gaps) hκ)
    generalize hGG : Lx.gaps[κ]'hκ = G at *
    clear hGG
    obtain ⟨g', cap', hve, _, _, hgW, h4⟩ := htkW
    have H4 := Lib.hid h4
    clear h4
    cases hve
    have hcap : l.length ≤ cap := h1
    go_loopw [10, 11] (fun t i wr => ∃ (k n : Nat), i = .int .i64 k ∧ k + 1 ≤ l.length ∧ t = .string (bs (Lx.ahead G (l.take k))) ∧ wr = W.drewN n) (fun _ i _ => l.length - (intOf i).toNat)
    case atStart => exact ⟨0, 0, rfl, by omega, by simp [Lx.ahead, bs], rfl⟩
    case round =>
      obtain ⟨k, n, rfl, hk, rfl, rfl⟩ := hrel
      have hA := ahead_len G hG6 (l.take k) s.size (fun t ht => HTX.out t (List.mem_of_mem_take ht))
      rw [← bs_size, List.length_take, Nat.min_eq_left (by omega)] at hA
      have hA' : k * (s.size + 6) ≤ 1501 * 1506 := Nat.mul_le_mul (by omega) (by omega)
      have hA2 : (bs (Lx.ahead G (l.take k))).size ≤ 3000000 := by omega
      have hGs : (bs G).size ≤ 6 := by rw [bs_size]; exact hG6
      clear hA hA'
      by_cases hlt : k + 1 < l.length
      · have hkl : k < l.length := by omega
        have hct := (H4.out k hkl).2.1
        have htx : (bs l[k].text).size ≤ 1500 := by rw [bs_size]; have := HTX.out _ (List.getElem_mem hkl); omega
        have HAS := Lib.hid (ahead_snoc G l k hkl)
        generalize htt : l[k].text = tx at *
        clear htt
        have ha1 := fun w => run_string_add_sum (P := Tryd.prog) w (bs (Lx.ahead G (l.take k))) (bs G) (by omega)
        have ha2 := fun w => run_string_add_sum (P := Tryd.prog) w (bs (Lx.ahead G (l.take k)) ++ bs G) (bs tx) (by rw [ByteArray.size_append]; omega)
        go_wp2_with fail
        go_quiet (fail)
        go_wp2_with fail
        go_roundw
        case rel => exact ⟨k + 1, n + nq, by go_num, by omega, by rw [HAS.out, bs_append, bs_append], rfl⟩
        case measure => simp [intOf]; omega
      · go_wp2_with fail
        rw [bs_append]
        have hkk : k = l.length - 1 := by omega
        obtain ⟨m, hm, hmk⟩ := Lx.lex_again HL.out HGM.out
        rw [← hkk] at hm
        have HM := Lib.hid hm
        have hmlen : m.length = l.length := by have := congrArg List.length hmk; simpa using this
        have HMK := Lib.hid hmk
        clear hm hmk hkk
        have hT : (bs (Lx.ahead G (l.take k) ++ G)).size = (bs (Lx.ahead G (l.take k))).size + (bs G).size := by rw [bs_size, bs_size, bs_size, List.length_append]
        have hI : H.In (W.drewN n) := (hH.below hbW).drewN n
        by_cases h6 : (bs (Lx.ahead G (l.take k) ++ G)).size ≤ 6000
        · clear hT
          refine (Lex_ok H T _ h6 _ hI HM.out).mono ?_
          rintro e w3 ⟨v, rfl, htm, hb3⟩
          obtain ⟨g2, cap2, rfl, m1, m2, m3, m4⟩ := htm
          have M4 := Lib.hid m4
          have HML := Lib.hid hmlen
          rw [hmlen]
          have hbf : Below w.heap.size w w3 := (below_drewN hbW n).trans (hb3.mono hbW.size)
          clear m4 hmlen
          by_cases h5 : (5000 : Int) < (bs (Lx.ahead G (l.take k))).size
          · go_wp2_with fail
            go_ret
            exact ⟨rfl, hbf⟩
          · go_wp2_with fail
            go_loopw [13] (fun i wr => ∃ (j n : Nat), i = .int .i64 j ∧ j ≤ l.length ∧ wr = w3.drewN n) (fun i _ => l.length - (intOf i).toNat)
            case atStart => exact ⟨0, 0, rfl, Nat.zero_le _, rfl⟩
            case round =>
              obtain ⟨j, n2, rfl, hj, rfl⟩ := hrel
              by_cases hjl : j < l.length
              · have hjm : j < m.length := by rw [HML.out]; exact hjl
                have hcl := H4.out j hjl
                have hcm := M4.out j hjm
                have hkt : Lx.kt m[j] = Lx.kt l[j] := by
                  have h1 : (m.map Lx.kt)[j]? = (l.map Lx.kt)[j]? := by rw [HMK.out]
                  rw [List.getElem?_map, List.getElem?_map, List.getElem?_eq_getElem hjm, List.getElem?_eq_getElem hjl] at h1
                  exact Option.some.inj h1
                have hk1 : m[j].kind = l[j].kind := congrArg Prod.fst hkt
                have hk2 : m[j].text = l[j].text := congrArg Prod.snd hkt
                rw [hk1, hk2] at hcm
                have c1 : w3.cell? ⟨g, j * 3, none⟩ = some (.string (bs l[j].kind)) := by rw [hb3.cell (p := ⟨g, j * 3, none⟩) hgW]; exact hcl.1
                have c2 : w3.cell? ⟨g, j * 3 + 1, none⟩ = some (.string (bs l[j].text)) := by rw [hb3.cell (p := ⟨g, j * 3 + 1, none⟩) hgW]; exact hcl.2.1
                have d1 := hcm.1
                have d2 := hcm.2.1
                generalize l[j].kind = kd at *
                generalize l[j].text = tx at *
                clear hcm hcl hk1 hk2 hkt
                have e1 : ((bs kd).toList == (bs kd).toList) = true := by simp
                have e2 : ((bs tx).toList == (bs tx).toList) = true := by simp
                go_wp2_with fail
                go_quiet (fail)
                go_wp2_with fail
                go_roundw
                case rel => exact ⟨j + 1, n2 + nq, by go_num, by omega, rfl⟩
                case measure => simp [intOf]; omega
              · go_wp2_with fail
                go_ret
                exact ⟨rfl, below_drewN hbf _⟩
        · refine (Lex_long H T _ h6 (by unfold maxLen; omega) _ hI).mono ?_
          rintro e w3 ⟨te, pe, rfl, _, hb3⟩
          have h5 : (5000 : Int) < (bs (Lx.ahead G (l.take k))).size := by omega
          clear hT h6
          go_wp2_with fail
          go_ret
          exact ⟨rfl, (below_drewN hbW n).trans (hb3.mono hbW.size)⟩
/-- THE LAW's CALL, for every string that is no longer than the form's reach and every second argument. -/
theorem gaps_any (H : Kn) (T : LexTabs H) (s : ByteArray) (x : Int) (hm : s.size ≤ maxLen) (w : World) (hH : H.In w) :
    Calls Tryd.prog 7 #[.string s, .int .i64 x] w fun e w' => e = .returned (.bool true) ∧ Below w.heap.size w w' := by
  by_cases hs : s.size ≤ 1500
  · cases hl : Lx.lexAll s.data.toList with
    | ok l => exact gaps_good H T s x hs w hH hl
    | error a => exact gaps_bad H T s x hs w hH hl
  · exact gaps_long H T s x hs hm w hH
end Go.Proofs.YtbagkghbgcpahaaDoor
