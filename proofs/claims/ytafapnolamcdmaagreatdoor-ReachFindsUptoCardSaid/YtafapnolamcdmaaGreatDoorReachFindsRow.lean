/- ReachFinds: from the walk to the row's contract, and the witness (arguments up to a bulk). -/
import Derived.Test.YtafapnolamcdmaaGreatDoorRfs
import Derived.Deep.DeepHandedRow
import Derived.Deep.DeepWitnessRowRef
set_option linter.all false
namespace Go.Proofs.YtafapnolamcdmaaGreatDoor.reachFinds
set_option maxRecDepth 100000
open Go.ChangeShapes Go.WideShapes Go.ChangeAt Go.RowKit Go.Deep
theorem own:ownKnob Tryz.prog.godebug=none:=by kernel_rfl
theorem parts{W:World}(h:laidMetH Tryz.prog Rows.reachFindsUptoRow.laid W):laidMet Tryz.prog (Rows.reachFindsUptoRow.laid.filter λx=>x.2.handleName?.isNone) W/\handlesMet Tryz.prog [("errors.errorType",Rows.laid_errors_errorType)] W:=h
theorem levs{W:World}(h:laidMet Tryz.prog (Rows.reachFindsUptoRow.laid.filter λx=>x.2.handleName?.isNone) W):Zbv (Zan W):=
 levels_of (laidMet_reads h (List.mem_filter.2 ⟨by simp[Rows.reachFindsUptoRow],rfl⟩))
theorem sub:(([0,1,2,3,4,5,6,7,8].map senT).map sentE).Sublist (Rows.reachFindsUptoRow.laid.filter λx=>x.2.handleName?.isNone):=by
 repeat(first|exact List.nil_sublist _|apply List.Sublist.cons_cons|apply List.Sublist.cons)
theorem laidOut:laidOutB Tryz.prog=true:=by as_aux_lemma=>kernel_rfl
theorem contract(H:Type)(enc:TypeId×Value→H)(W:World)(base:Nat)(args:Array Value)(ds gs:List (DataW H))(before:List MemPlace)
  (hval:∀(j:Nat) t v,Tryz.f3.params[j]?=some t→args[j]?=some v→Value.okWide Tryz.prog W .any base t v)
  (hW:DataW.Whole enc Tryz.prog Tryz.f3.params.toList Rows.reachFindsSpec.vars false W args.toList ds gs before) (hk:Rows.uptoSmall H (ds++gs)=true) (hL:laidMetH Tryz.prog Rows.reachFindsUptoRow.laid W):
  Calls Tryz.prog 3 args W λe W'=>∃v,e=.returned v/\Rows.reachFindsSpec.post enc Tryz.prog Tryz.f3 false true false false W args v W':=by
 have hW':=hW;obtain⟨p,q,hA0,hV,rfl,hfz,hnd⟩:=hW;have hA:DataW.TrodAll enc Tryz.prog W 0 (λ_=>true) true Tryz.f3.params.toList args.toList ds p:=hA0;rw[Tryz.params3] at hA hval;obtain⟨v0,vs0,d0,ds0,q0,r0,hargs,rfl,rfl,h0,g0⟩:=trodAll_cons hA;obtain⟨v1,vs1,d1,ds1,q1,r1,rfl,rfl,rfl,h1,g1⟩:=trodAll_cons g0;obtain⟨v2,vs2,d2,ds2,q2,r2,rfl,rfl,rfl,h2,g2⟩:=trodAll_cons g1;obtain⟨rfl,rfl,rfl⟩:=trodAll_nil g2;obtain rfl:args = #[v0,v1,v2]:=by cases args;simp_all
 obtain⟨rfl,rfl⟩:=trodVars_none hV;clear hA0;simp only[List.append_nil] at hW' hk;have hkk:Rows.uptoBulk d0≤1048576/\Rows.uptoBulk d1≤1048576/\Rows.uptoBulk d2≤1048576:=by
  have:=of_decide_eq_true hk;simp only[Rows.uptoBulkAll] at this;omega
 obtain⟨B0,B1,B2⟩:=hkk;obtain⟨p0,vi0,vo0,vl0,va0,vc0,rfl,hp0,zi0,zo0,zw0⟩:=read_prog (hval 0 27 v0 rfl rfl) h0 B0;obtain⟨l1,hl1,zl1,zx1⟩:=read_insW (hval 1 28 v1 rfl rfl) h1;obtain⟨n2,rfl⟩:=okWide_int Tryz.underlying3 (hval 2 3 v2 rfl rfl);obtain⟨hL1,hp2⟩:=parts hL;have hE:=handle_of hp2 (List.mem_singleton.2 rfl);obtain⟨sp,S,_⟩:=sents_of hL1 [0,1,2,3,4,5,6,7,8] rfl (by decide) (by decide) sub hE;have walk:=reachFinds_any (Zan W) (levs hL1) sp p0 vi0 vo0 vl0 va0 vc0 hp0 l1 v1 hl1 ⟨zi0,zo0,zw0,by omega,λx hx=>by have:=zx1 x hx;omega⟩ n2 W (Za9 W) S hE;refine walk.mono λe W' ⟨he,hg⟩=>?_;subst he;have lt:∀x,x∈q0++(q1++(q2))→x.block<W.heap.size:=λx hx=>hW'.lt x (by simpa using hx);exact⟨_,rfl,_,_,_,[],_,[],hW',trodAll_cons_mk (shut_bool Tryz.underlying4 _) trodAll_mk0,
  (trodAll_cons_mk (Below.trod laidOut (by kernel_rfl) (of_decide_eq_true (by kernel_rfl)) h0 hg (λx hx=>lt x (by simp[hx]))) 
  (trodAll_cons_mk (Below.trod laidOut (by kernel_rfl) (of_decide_eq_true (by kernel_rfl)) h1 hg (λx hx=>lt x (by simp[hx]))) 
  (trodAll_cons_mk (Below.trod laidOut (by kernel_rfl) (of_decide_eq_true (by kernel_rfl)) h2 hg (λx hx=>lt x (by simp[hx]))) trodAll_mk0))),rfl,hg.frame _,λh=>by cases h⟩
theorem door_met(os:Os):laidMetH Tryz.prog Rows.reachFindsUptoRow.laid ((World.doorLaid Tryz.prog 300 os).forCall (λ_ _=>0) ⟨#[],#[.agg #[.slice none 0 0,.slice none 0 0,.slice none 0 0,.slice none 0 0,.slice none 0 0],.slice none 0 0,.int .i64 0],[]⟩).memory:=
 laidMetH_of_parts3 (fuel:=10) (laidMet_of_run' 10 (by kernel_rfl) (by kernel_rfl)) (by kernel_rfl) (by kernel_rfl)
theorem reads(os:Os){H:Type}(enc:TypeId×Value→H):∃places,DataW.whole enc Tryz.prog ((World.doorLaid Tryz.prog 300 os).forCall (λ_ _=>0) ⟨#[],#[.agg #[.slice none 0 0,.slice none 0 0,.slice none 0 0,.slice none 0 0,.slice none 0 0],.slice none 0 0,.int .i64 0],[]⟩).memory Tryz.f3.params.toList Rows.reachFindsSpec.vars false #[Value.agg #[.slice none 0 0,.slice none 0 0,.slice none 0 0,.slice none 0 0,.slice none 0 0],.slice none 0 0,.int .i64 0].toList 8=some ([.agg [.nil,.nil,.nil,.nil,.nil],.nil,.lit (.int .i64 0)],[],places):=
 ⟨[],by kernel_rfl⟩
theorem lifted(os:Os)(started:os.Started)(H:Type)(enc:TypeId×Value→H)(F:Stop.Interp):
  ReturnsInHanded {} Tryz.checked os 3 .any ((Rows.OpenSpec.upto Rows.reachFindsSpec).preRow enc Tryz.prog Tryz.f3 Rows.reachFindsUptoRow.domain false Rows.reachFindsUptoRow.laid) (((Rows.OpenSpec.upto Rows.reachFindsSpec).at F).post enc Tryz.prog Tryz.f3 false true false false):=by
 obtain⟨places,hx⟩:=reads os enc;refine returnsInHanded_of_row (C:=Tryz.checked) (s:=Rows.OpenSpec.upto Rows.reachFindsSpec) own started (by kernel_rfl) Tryz.func3
  (witness_row_atRef (enc:=enc) (C:=Tryz.checked) false (World.doorLaid Tryz.prog 300 os) #[.agg #[.slice none 0 0,.slice none 0 0,.slice none 0 0,.slice none 0 0,.slice none 0 0],.slice none 0 0,.int .i64 0] rfl (by kernel_rfl) (by kernel_rfl) (by kernel_rfl)
   (OpenSpec.preRow_of_cond 8 hx (by kernel_rfl) (λk hk=>by cases hk;kernel_rfl) (by kernel_rfl) (door_met os))) ?_
 intro W base args ds gs before hval hW _ hcond _ hL _ _;exact contract H enc W base args ds gs before hval hW (hcond _ rfl) hL
end Go.Proofs.YtafapnolamcdmaaGreatDoor.reachFinds
