/- SlimSame: from the walk to the row's contract, and the witness (arguments up to a bulk). -/
import Derived.Test.YtofameafdnkijaaGreatDoorRows
import Derived.Test.YtofameafdnkijaaGreatDoorTsl
import Derived.Test.YtofameafdnkijaaGreatDoorRu
import Derived.Test.YtofameafdnkijaaGreatDoorWt
import Derived.OpenShut
import Derived.LaidMore
import Derived.Stop.Joined
import Derived.Deep.Strs
import Derived.Deep.DeepHandedRow
import Derived.Deep.DeepWitnessRowRef
set_option linter.all false
namespace Go.Proofs.YtofameafdnkijaaGreatDoor.slimSame
set_option maxRecDepth 100000
open Go.ChangeShapes Go.WideShapes Go.ChangeAt Go.RowKit Go.Deep
theorem own:ownKnob Tryz.prog.godebug=none:=by kernel_rfl
theorem levs {W:World} (h:laidMet Tryz.prog (Rows.slimSameUptoRow.laid.filter fun x=>x.2.handleName?.isNone) W):Zbo (Zai W):=
 levels_of (laidMet_reads h (List.mem_filter.2 ⟨by simp [Rows.slimSameUptoRow],rfl⟩))
theorem sub:(([0,1,2,3,4].map senT5).map sentE).Sublist (Rows.slimSameUptoRow.laid.filter fun x=>x.2.handleName?.isNone):=by
 repeat (first | exact List.nil_sublist _ | apply List.Sublist.cons_cons | apply List.Sublist.cons)
theorem laidOut:laidOutB Tryz.prog=true:=by as_aux_lemma=>kernel_rfl
theorem contract (H:Type) (enc:TypeId×Value→H) (W:World) (base:Nat) (args:Array Value) (ds gs:List (DataW H)) (before:List MemPlace)
  (hval:∀ (j:Nat) t v,Tryz.f3.params[j]?=some t→args[j]?=some v→Value.okWide Tryz.prog W .any base t v)
  (hW:DataW.Whole enc Tryz.prog Tryz.f3.params.toList Rows.slimSameSpec.vars false W args.toList ds gs before) (hk:Rows.uptoSmall H (ds++gs)=true) (hL:laidMetH Tryz.prog Rows.slimSameUptoRow.laid W):
  Calls Tryz.prog 3 args W fun e W'=>∃ v,e = .returned v∧Rows.slimSameSpec.post enc Tryz.prog Tryz.f3 false true false false W args v W':=by
 have hW':=hW
 obtain⟨p,q,hA0,hV,rfl,hfz,hnd⟩:=hW
 have hA:DataW.TrodAll enc Tryz.prog W 0 (fun _=>true) true Tryz.f3.params.toList args.toList ds p:=hA0
 rw [Tryz.params3] at hA hval
 obtain⟨v0,vs0,d0,ds0,q0,r0,hargs,rfl,rfl,h0,g0⟩:=trodAll_cons hA
 obtain⟨v1,vs1,d1,ds1,q1,r1,rfl,rfl,rfl,h1,g1⟩:=trodAll_cons g0
 obtain⟨v2,vs2,d2,ds2,q2,r2,rfl,rfl,rfl,h2,g2⟩:=trodAll_cons g1
 obtain⟨rfl,rfl,rfl⟩:=trodAll_nil g2
 obtain rfl:args = #[v0,v1,v2]:=by cases args;simp_all
 obtain⟨rfl,rfl⟩:=trodVars_none hV
 clear hA0
 simp only [List.append_nil] at hW' hk
 have hkk:Rows.uptoBulk d0≤1048576∧Rows.uptoBulk d1≤1048576∧Rows.uptoBulk d2≤1048576:=by
  have:=of_decide_eq_true hk
  simp only [Rows.uptoBulkAll] at this
  omega
 obtain⟨B0,B1,B2⟩:=hkk
 obtain⟨p0,vi0,vo0,vl0,va0,vc0,rfl,hp0,zi0,zo0,zw0⟩:=read_prog (hval 0 27 v0 rfl rfl) h0 B0
 obtain⟨l1,hl1,zl1⟩:=read_insV (hval 1 28 v1 rfl rfl) h1
 obtain⟨n2,rfl⟩:=okWide_int Tryz.underlying3 (hval 2 3 v2 rfl rfl)
 have hL1:=laidMetH_met hL
 obtain⟨sp,S⟩:=sen5_of hL1 [0,1,2,3,4] (by decide) (by decide) sub (levs_lt (levs hL1))
 have walk:=slimSame_any (Zai W) (levs hL1) sp p0 vi0 vo0 vl0 va0 vc0 hp0 l1 v1 hl1 ⟨zi0,zo0,zw0,by omega⟩ n2 W (Za8 W) S
 refine walk.mono fun e W' ⟨he,hg⟩=>?_
 subst he
 have lt:∀ x,x∈q0++(q1++(q2))→x.block<W.heap.size:=fun x hx=>hW'.lt x (by simpa using hx)
 exact⟨_,rfl,_,_,_,[],_,[],hW',trodAll_cons_mk (shut_bool Tryz.underlying4 _) trodAll_mk0,
  (trodAll_cons_mk (Below.trod laidOut (by kernel_rfl) (of_decide_eq_true (by kernel_rfl)) h0 hg (fun x hx=>lt x (by simp [hx]))) 
  (trodAll_cons_mk (Below.trod laidOut (by kernel_rfl) (of_decide_eq_true (by kernel_rfl)) h1 hg (fun x hx=>lt x (by simp [hx]))) 
  (trodAll_cons_mk (Below.trod laidOut (by kernel_rfl) (of_decide_eq_true (by kernel_rfl)) h2 hg (fun x hx=>lt x (by simp [hx]))) trodAll_mk0))),rfl,hg.frame _,fun h=>by cases h⟩
theorem door_met (os:Os):laidMetH Tryz.prog Rows.slimSameUptoRow.laid ((World.doorLaid Tryz.prog 300 os).forCall (fun _ _=>0) ⟨#[],#[.agg #[.slice none 0 0,.slice none 0 0,.slice none 0 0,.slice none 0 0,.slice none 0 0],.slice none 0 0,.int .i64 0],[]⟩).memory:=
 laidMetH_of_parts3 (fuel:=10) (laidMet_of_run' 10 (by kernel_rfl) (by kernel_rfl)) (by kernel_rfl) (by kernel_rfl)
theorem reads (os:Os) {H:Type} (enc:TypeId×Value→H):∃ places,DataW.whole enc Tryz.prog ((World.doorLaid Tryz.prog 300 os).forCall (fun _ _=>0) ⟨#[],#[.agg #[.slice none 0 0,.slice none 0 0,.slice none 0 0,.slice none 0 0,.slice none 0 0],.slice none 0 0,.int .i64 0],[]⟩).memory Tryz.f3.params.toList Rows.slimSameSpec.vars false #[Value.agg #[.slice none 0 0,.slice none 0 0,.slice none 0 0,.slice none 0 0,.slice none 0 0],.slice none 0 0,.int .i64 0].toList 8=some ([.agg [.nil,.nil,.nil,.nil,.nil],.nil,.lit (.int .i64 0)],[],places):=
 ⟨[],by kernel_rfl⟩
theorem lifted (os:Os) (started:os.Started) (H:Type) (enc:TypeId×Value→H) (F:Stop.Interp):
  ReturnsInHanded {} Tryz.checked os 3 .any ((Rows.OpenSpec.upto Rows.slimSameSpec).preRow enc Tryz.prog Tryz.f3 Rows.slimSameUptoRow.domain false Rows.slimSameUptoRow.laid) (((Rows.OpenSpec.upto Rows.slimSameSpec).at F).post enc Tryz.prog Tryz.f3 false true false false):=by
 obtain⟨places,hx⟩:=reads os enc
 refine returnsInHanded_of_row (C:=Tryz.checked) (s:=Rows.OpenSpec.upto Rows.slimSameSpec) own started (by kernel_rfl) Tryz.func3
  (witness_row_atRef (enc:=enc) (C:=Tryz.checked) false (World.doorLaid Tryz.prog 300 os) #[.agg #[.slice none 0 0,.slice none 0 0,.slice none 0 0,.slice none 0 0,.slice none 0 0],.slice none 0 0,.int .i64 0] rfl (by kernel_rfl) (by kernel_rfl) (by kernel_rfl)
   (OpenSpec.preRow_of_cond 8 hx (by kernel_rfl) (fun k hk=>by cases hk;kernel_rfl) (by kernel_rfl) (door_met os))) ?_
 intro W base args ds gs before hval hW _ hcond _ hL _ _
 exact contract H enc W base args ds gs before hval hW (hcond _ rfl) hL
end Go.Proofs.YtofameafdnkijaaGreatDoor.slimSame
