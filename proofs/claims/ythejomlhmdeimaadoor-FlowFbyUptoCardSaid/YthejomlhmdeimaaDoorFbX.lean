/- Plain: a fby b is a -> pre b. -/
import Derived.Test.YthejomlhmdeimaaDoorFxM
namespace Go.Proofs.YthejomlhmdeimaaDoor
open Mx
theorem fby_same {kind : Int} (hk : kind = 1 ∨ kind = 2) {a b : Ex} (h : (checkM (pairP kind (fbyE a b) (arrE a (preE b)))).1 = 0) (nb : Bool) (ni : Int) (ins : List (List Vl)) :
  ∀ k ∈ runM nb ni (pairP kind (fbyE a b) (arrE a (preE b))) ins, k.trap = true ∨ ∃ v, k.out = [v, v] := by
 obtain ⟨ks, ord, hks, ho⟩ := check_kinds h
 obtain ⟨k1, k2, f1, f2⟩ := pair_kinds h hks
 unfold runM
 rw [hks, ho]
 dsimp only
 have hfa := sub_form f1 a (by simp)
 have hfb := sub_form f1 b (by simp)
 have hM : memN (fbyE a b) = memN a + memN b + 1 := fby_memN a b
 have hcd : ∀ e m, memsAt m e = (memsAt 0 e).map fun x => (x.1, x.2 + m) := fun e m => by
  have := memsAt_shift e 0 m
  rwa [Nat.zero_add] at this
 have hmB : memsAt (memN (fbyE a b)) (arrE a (preE b)) = (memsAt 0 (fbyE a b)).map fun x => (x.1, x.2 + memN (fbyE a b)) := by
  have e1 := memsAt_shift (arrE a (preE b)) 0 (memN (fbyE a b))
  rw [Nat.zero_add] at e1
  rw [e1]
  congr 1
  rw [fby_mems, arr_mems]
  simp only [memsAtL, pre_mems, Nat.zero_add, List.append_nil, List.append_assoc]
 have hkp : kindOf ks (preE b) = kind := by
  have e : kindOf ks (arrE a (preE b)) = if ([kindOf ks a, kindOf ks (preE b)] : List Int).contains 0 then 0 else kindBy oArrow ((ks ⟨#[]⟩).getD 0) [kindOf ks a, kindOf ks (preE b)] := by
   unfold arrE
   rw [kindOf]
   simp only [kindsOf]
   rfl
  rw [k2] at e
  have e2 : kindBy oArrow ((ks ⟨#[]⟩).getD 0) [kindOf ks a, kindOf ks (preE b)] = if kindOf ks a = kindOf ks (preE b) then kindOf ks a else 0 := by
   have := ops_ne
   unfold kindBy
   simp [this]
  rw [e2] at e
  split at e
  ·omega
  ·split at e
   ·rename_i h3; rw [← h3]; exact e.symm
   ·omega
 have hmN : memN (arrE a (preE b)) = memN (fbyE a b) := by rw [arr_memN, pre_memN, hM]; omega
 refine runGo_inv (P := fun _ mem => Half (memN (fbyE a b)) mem) (Q := fun k => ∃ v, k.out = [v, v]) (fun first mem inp hP => ?_) ins true _ ?_
 ·refine (pair_tick h hks ho ⟨ks, namesM _, getI (nmEnv _), nb, ni⟩ rfl first mem inp).imp id fun ⟨N, h1, h2⟩ => ⟨?_, ?_⟩
  ·have he : (evalM ⟨ks, namesM (pairP kind (fbyE a b) (arrE a (preE b))), getI (nmEnv (pairP kind (fbyE a b) (arrE a (preE b)))), nb, ni⟩ ⟨first, mem, inp, N⟩ (memN (fbyE a b)) (arrE a (preE b))).1 = (evalM ⟨ks, namesM (pairP kind (fbyE a b) (arrE a (preE b))), getI (nmEnv (pairP kind (fbyE a b) (arrE a (preE b)))), nb, ni⟩ ⟨first, mem, inp, N⟩ 0 (fbyE a b)).1 := by
    rw [fby_eval, arr_eval, fby_late, arr_late, pre_late]
    dsimp only
    rw [k1, k2]
    generalize hc : (first && decide (0 < if min 2 (lateOf (namesM (pairP kind (fbyE a b) (arrE a (preE b)))) b + 1) = 2 then 2 else lateOf (namesM (pairP kind (fbyE a b) (arrE a (preE b)))) a)) = c
    cases c with
    | true => rfl
    | false =>
     simp only [Bool.false_eq_true, if_false]
     split
     ·rw [eval_agree (at_ := fun s => some (getI (nmEnv (pairP kind (fbyE a b) (arrE a (preE b)))) s).toNat) (fun s _ _ => rfl) rfl rfl a hfa (memN (fbyE a b)) 0 (fun j hj => by
       rw [Nat.zero_add]; exact (hP j (by omega)).symm) (fun _ _ => rfl)]
     ·rename_i hf
      rw [pre_eval _ _ _ _ (by simpa using hf)]
      have := hP (memN a + memN b) (by omega)
      simp only [memNL, Nat.add_zero, Nat.zero_add]
      rw [this, Nat.add_assoc]
   rw [h1, he]
   exact ⟨_, rfl⟩
  ·rw [h2, hmB]
   have hh := half_map (fun x : Ex × Nat => (evalM ⟨ks, namesM (pairP kind (fbyE a b) (arrE a (preE b))), getI (nmEnv (pairP kind (fbyE a b) (arrE a (preE b)))), nb, ni⟩ ⟨first, mem, inp, N⟩ x.2 x.1).1) (memsAt 0 (fbyE a b)) ((memsAt 0 (fbyE a b)).map fun x => (x.1, x.2 + memN (fbyE a b))) (by simp) (fun j j1 j2 => by
    rw [List.getElem_map]
    dsimp only
    obtain ⟨g1, g2, g3⟩ := memsAt_fit _ f1 0 _ (List.getElem_mem j1)
    rw [eval_agree (at_ := fun s => some (getI (nmEnv (pairP kind (fbyE a b) (arrE a (preE b)))) s).toNat) (fun s _ _ => rfl) rfl rfl _ g3 _ ((memsAt 0 (fbyE a b))[j].2 + memN (fbyE a b)) (fun i hi => by
     have := hP ((memsAt 0 (fbyE a b))[j].2 + i) (by omega)
     dsimp only
     rw [this]
     congr 1
     omega) (fun _ _ => rfl)])
   rw [memsAt_len] at hh
   exact hh
 ·have hnA : (memNds 0 (fbyE a b)).map (fun x => kindOf ks x.1) = (memNds 0 a).map (fun x => kindOf ks x.1) ++ ((memNds 0 b).map (fun x => kindOf ks x.1) ++ [kind]) := by
   have e1 := congrArg (List.map (kindOf ks)) (memNds_fst b (0 + memN a) 0)
   rw [List.map_map, List.map_map] at e1
   have e0 : memNds 0 (fbyE a b) = memNds 0 a ++ (memNds (0 + memN a) b ++ [(fbyE a b, 0)]) := by simp [fbyE, memNds, memNdsL]
   rw [e0]
   simp only [List.map_append, List.map_cons, List.map_nil, k1]
   rw [show (memNds (0 + memN a) b).map (fun x => kindOf ks x.1) = (memNds 0 b).map (fun x => kindOf ks x.1) from e1]
  have hnB : (memNds (memN (fbyE a b)) (arrE a (preE b))).map (fun x => kindOf ks x.1) = (memNds 0 a).map (fun x => kindOf ks x.1) ++ ((memNds 0 b).map (fun x => kindOf ks x.1) ++ [kind]) := by
   have e1 := congrArg (List.map (kindOf ks)) (memNds_fst b (memN (fbyE a b) + memN a) 0)
   have e2 := congrArg (List.map (kindOf ks)) (memNds_fst a (memN (fbyE a b)) 0)
   rw [List.map_map, List.map_map] at e1 e2
   have e0 : memNds (memN (fbyE a b)) (arrE a (preE b)) = memNds (memN (fbyE a b)) a ++ (memNds (memN (fbyE a b) + memN a) b ++ [(preE b, memN (fbyE a b) + memN a)]) := by
    have := ops_ne
    simp [arrE, preE, memNds, memNdsL, this]
   rw [e0]
   simp only [List.map_append, List.map_cons, List.map_nil, hkp]
   rw [show (memNds (memN (fbyE a b) + memN a) b).map (fun x => kindOf ks x.1) = (memNds 0 b).map (fun x => kindOf ks x.1) from e1, show (memNds (memN (fbyE a b)) a).map (fun x => kindOf ks x.1) = (memNds 0 a).map (fun x => kindOf ks x.1) from e2]
  have e0 : memNdsL 0 (pairP kind (fbyE a b) (arrE a (preE b))).terms = memNds 0 (fbyE a b) ++ memNds (memN (fbyE a b)) (arrE a (preE b)) := by
   rw [pair_terms]; simp [memNdsL]
  unfold startM
  rw [e0]
  dsimp only
  have hh := half_map (fun x : Ex × Nat => nilV nb ni (kindOf ks x.1)) (memNds 0 (fbyE a b)) (memNds (memN (fbyE a b)) (arrE a (preE b))) (by rw [memNds_len, memNds_len, hmN]) (fun j j1 j2 => by
   have e1 : ((memNds 0 (fbyE a b)).map (fun x => kindOf ks x.1))[j]? = ((memNds (memN (fbyE a b)) (arrE a (preE b))).map (fun x => kindOf ks x.1))[j]? := by rw [hnA, hnB]
   simp only [List.getElem?_map, List.getElem?_eq_getElem j1, List.getElem?_eq_getElem j2, Option.map_some, Option.some.injEq] at e1
   rw [e1])
  rw [memNds_len] at hh
  exact hh
end Go.Proofs.YthejomlhmdeimaaDoor
