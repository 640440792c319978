/- Walks: slices.Index, Contains at []string. -/
import Derived.Test.YtofameafdnkijaaGreatDoorRg
import Derived.Test.YtofameafdnkijaaGreatDoorProg
import Derived.Lib.Strings
import Derived.Lib.IndexBytes
set_option linter.all false
namespace Go.Proofs.YtofameafdnkijaaGreatDoor
open Go.RowKit
def idxBy (p:ByteArray→Bool) (l:List ByteArray):Int:=match l.findIdx? p with | some i=>(i:Int) | none => -1
theorem idxBy_found (p:ByteArray→Bool) (l:List ByteArray) (k:Nat) (hk:k<l.length) (hp:p l[k]=true) (hn:∀ i (hi:i<l.length),i<k→p l[i]=false):idxBy p l=(k:Int):=by
 have:l.findIdx? p=some k:=by
  rw [List.findIdx?_eq_some_iff_getElem]
  exact⟨hk,hp,fun j hj=>by simp [hn j (by omega) hj]⟩
 simp [idxBy,this]
theorem idxBy_none (p:ByteArray→Bool) (l:List ByteArray) (hn:∀ i (hi:i<l.length),p l[i]=false):idxBy p l = -1:=by
 have:l.findIdx? p=none:=by
  rw [List.findIdx?_eq_none_iff]
  intro x hx
  obtain⟨i,hi,rfl⟩:=List.mem_iff_getElem.1 hx
  exact hn i hi
 simp [idxBy,this]
theorem idxBy_ge (p:ByteArray→Bool) (l:List ByteArray):decide (0≤idxBy p l)=l.any p:=by
 cases h:l.findIdx? p with
 | none=>
  rw [idxBy,h]
  rw [List.findIdx?_eq_none_iff] at h
  have:l.any p=false:=by simpa using h
  rw [this];rfl
 | some i=>
  rw [idxBy,h]
  rw [List.findIdx?_eq_some_iff_getElem] at h
  obtain⟨hi,hp,_⟩:=h
  have:l.any p=true:=List.any_eq_true.2 ⟨l[i],List.getElem_mem _,hp⟩
  rw [this];simp
theorem idxBy_lt (p:ByteArray→Bool) (l:List ByteArray) : -1≤idxBy p l∧idxBy p l<l.length:=by
 unfold idxBy
 cases h:l.findIdx? p with
 | none=>simp;omega
 | some i=>
  rw [List.findIdx?_eq_some_iff_getElem] at h
  obtain⟨hi,_⟩:=h
  simp;omega
theorem idx_any (H:Kn) (v:Value) (l:List ByteArray) (s:ByteArray) (w:World) (hv:Zfg H v l) (hH:H.In w):
  Calls Tryz.prog 90 #[v,.string s] w fun e w'=>e = .returned (.int .i64 (idxBy (fun x=>s.toList==x.toList) l))∧w=w':=by
 rcases hv.cases with ⟨rfl,rfl⟩ | ⟨b,off,cap,rfl,h1,h2,h3⟩
 ·go_enter Tryz.func90,Tryz.ntmps90
  go_wp2
  go_rounds 1
  all_goals go_ret
  exact⟨rfl,rfl⟩
 have hc:∀ i (hi:i<l.length),w.cell? ⟨b,off+i,none⟩=some (.string l[i]):=fun i hi=>hH.cell (h3 i hi)
 have HC:=Zhd hc
 clear hc h3 hH hv
 unfold maxLen at h2
 go_enter Tryz.func90,Tryz.ntmps90
 go_wp2
 go_loop [8] (fun i=>∃ k:Nat,k≤l.length∧i = .int .i64 k∧(∀ i (hi:i<l.length),i<k→(s.toList==l[i].toList)=false)) (fun i=>l.length - (intOf i).toNat)
 case atStart=>exact⟨0,Nat.zero_le _,rfl,by intro i _ h;omega⟩
 obtain⟨k,hk,rfl,hn⟩:=hrel
 have HN:=Zhd hn
 clear hn
 by_cases hlt:k<l.length
 ·have hc:=HC.out k hlt
  cases he:(s.toList==l[k].toList)
  ·go_wp2
   go_round
   case rel=>exact⟨k+1,by omega,by go_num,fun i hi hik=>by
    by_cases hik':i<k
    ·exact HN.out i hi hik'
    obtain rfl:i=k:=by omega
    exact he⟩
   simp [intOf];omega
  go_wp2
  go_ret
  exact⟨Zat (idxBy_found _ _ k hlt he fun i hi hik=>HN.out i hi hik).symm,rfl⟩
 go_wp2
 go_ret
 exact⟨Zat (idxBy_none _ _ fun i hi=>HN.out i hi (by omega)).symm,rfl⟩
theorem Zjq (H:Kn) (v:Value) (l:List ByteArray) (s:ByteArray) (w:World) (hv:Zfg H v l) (hH:H.In w):
  Calls Tryz.prog 54 #[v,.string s] w fun e w'=>e = .returned (.bool (l.any fun x=>s.toList==x.toList))∧w=w':=by
 have hb:=idxBy_lt (fun x=>s.toList==x.toList) l
 have hd:=idxBy_ge (fun x=>s.toList==x.toList) l
 have HD:=Zhd hd
 clear hd
 go_enter Tryz.func54,Tryz.ntmps54
 go_wp2_with (go_at_call 90;refine (idx_any H _ l _ _ hv hH).mono ?_;rintro e w' ⟨rfl,rfl⟩)
 go_ret
 exact⟨Zb6 HD.out,rfl⟩
def esv (a:Addr):Value := .iface 283 (.pointer (some a))
structure Sen5 (w:World) (p:Nat→Addr):Prop where
 c1:w.cell? ⟨0,0,none⟩=some (.iface 283 (.pointer (some (p 1))))
 c2:w.cell? ⟨3,0,none⟩=some (.iface 283 (.pointer (some (p 2))))
 c4:w.cell? ⟨1,0,none⟩=some (.iface 283 (.pointer (some (p 4))))
 c5:w.cell? ⟨6,0,none⟩=some (.iface 283 (.pointer (some (p 5))))
 c6:w.cell? ⟨2,0,none⟩=some (.iface 283 (.pointer (some (p 6))))
 big:10≤w.heap.size
theorem Sen5.below {w w':World} {p:Nat→Addr} (h:Sen5 w p) (hb:Below w.heap.size w w'):Sen5 w' p:=by
 have hg:=h.big
 have hc:∀ b,b<10→w'.cell? ⟨b,0,none⟩=w.cell? ⟨b,0,none⟩:=fun b hbl=>hb.cell (p:=⟨b,0,none⟩) (Nat.lt_of_lt_of_le hbl hg)
 refine⟨?_,?_,?_,?_,?_,Nat.le_trans hg hb.size⟩
 ·rw [hc _ (by decide)];exact h.c1
 ·rw [hc _ (by decide)];exact h.c2
 ·rw [hc _ (by decide)];exact h.c4
 ·rw [hc _ (by decide)];exact h.c5
 rw [hc _ (by decide)];exact h.c6
end Go.Proofs.YtofameafdnkijaaGreatDoor
