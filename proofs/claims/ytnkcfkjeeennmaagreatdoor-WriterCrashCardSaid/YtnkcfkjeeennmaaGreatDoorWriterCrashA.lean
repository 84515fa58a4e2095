/-
  WriterCrash of the chapter 25 (writer) holds, its first part: the call returns true, whatever leaves are appended first and then, at whatever put the store crashes, done or not, in whatever world meets the row. No further condition beyond the row's own: the package-level variables that the row lists hold what the program's text gives them.
-/
import Derived.Test.YtnkcfkjeeennmaaGreatDoorCards
import Derived.Test.YtnkcfkjeeennmaaGreatDoorTie
import Derived.Test.YtnkcfkjeeennmaaGreatDoorOpenC25
import Derived.Deep.DeepWitnessRowRef
namespace Go.Proofs.YtnkcfkjeeennmaaGreatDoor.WriterCrash
open Go.ChangeShapes Go.WideShapes Go.ChangeAt Go.RowKit
set_option maxRecDepth 100000
theorem own:ownKnob Tryz.prog.godebug=none:=by kernel_rfl
theorem laidIs:Rows.writerCrashRow.laid=laid25:=by kernel_rfl
theorem params:Tryz.f6.params=#[75]:=by rfl
theorem contract(H:Type)(enc:TypeId×Value→H)(W:World)(base:Nat)(args:Array Value)(ds gs:List (DataW H))(before:List MemPlace)
 (hval:∀(j:Nat) t v,Tryz.f6.params[j]? =some t→args[j]? =some v→Value.okWide Tryz.prog W .any base t v)
 (hW:DataW.Whole enc Tryz.prog Tryz.f6.params.toList Rows.writerCrashSpec.vars false W args.toList ds gs before) (hL:laidMetH Tryz.prog laid25 W):
 Calls Tryz.prog 6 args W fun e W'=> ∃v,e= .returned v∧Rows.writerCrashSpec.post enc Tryz.prog Tryz.f6 false true false false W args v W':=by
 have hW':=hW;obtain ⟨p,q,hA0,hV,rfl,hfz,hnd⟩:=hW;have hA:DataW.TrodAll enc Tryz.prog W 0 (fun _=> true) true Tryz.f6.params.toList args.toList ds p:=hA0;have hA1:=hA;rw[params] at hA hval;obtain ⟨v0,vs0,d0,ds0,p0,q0,hargs,rfl,rfl,h0,r0⟩:=trodAll_cons hA;obtain ⟨rfl,rfl,rfl⟩:=trodAll_nil r0;obtain rfl:args=#[v0]:=by cases args;simp_all
 obtain ⟨rfl,rfl⟩:=trodVars_none hV;obtain ⟨a0,c0,ss0,ca0,cb0,sm0,k0,e0,rfl,hl0,h10,hm0,h20⟩:=crash_arg (hval 0 _ v0 rfl rfl) h0;obtain ⟨se,E⟩:=env_of_laid hL;refine (crash_said E h10 hl0 h20 hm0 k0 e0 c0 cb0).mono fun e W' ⟨he,hg⟩=> ?_;subst he;exact ⟨_,rfl,_,_,_,[],_,[],hW',trodAll_cons_mk (shut_bool Tryz.underlying4 _) trodAll_mk0,TrodAll_later ok_all (fun b hb=> hg.block b hb id) (by rw[params];decide) hA1,rfl,Ext.kept hg _,fun h=> by cases h⟩
abbrev wargs:Array Value:=#[.agg #[.slice none 0 0,.slice none 0 0,.int .i64 0,.bool false]]
theorem reads(os:Os){H:Type}(enc:TypeId×Value→H):∃places,DataW.whole enc Tryz.prog ((laidWorld25 os).forCall (fun _ _=> 0) ⟨#[],wargs,[]⟩).memory Tryz.f6.params.toList Rows.writerCrashSpec.vars false wargs.toList 8=some ([.agg [.nil,.nil,.lit (.int .i64 0),.lit (.bool false)]],[],places):=
 ⟨[],by kernel_rfl⟩
theorem lifted(os:Os)(started:os.Started)(H:Type)(enc:TypeId×Value→H)(F:Stop.Interp):
 ReturnsInHanded {} Tryz.checked os 6 .any ((OpenSpec.ofChange Rows.writerCrashSpec).preRow enc Tryz.prog Tryz.f6 Rows.writerCrashRow.domain false Rows.writerCrashRow.laid) (((OpenSpec.ofChange Rows.writerCrashSpec).at F).post enc Tryz.prog Tryz.f6 false true false false):=by
 obtain ⟨places,hx⟩:=reads os enc;refine returnsInHanded_of_row (C:=Tryz.checked) (s:=OpenSpec.ofChange Rows.writerCrashSpec) own started (by kernel_rfl) Tryz.func6
  (witness_row_atRef (enc:=enc) (C:=Tryz.checked) false (laidWorld25 os) wargs rfl (by kernel_rfl) (by kernel_rfl) (by kernel_rfl)
   (OpenSpec.preRow_of_cond 8 hx (by kernel_rfl) (fun k hk=> by cases hk) (by kernel_rfl) (laidIs.symm▸laidWorld25_met os _))) ?_
 intro W base args ds gs before hval hW _ _ _ hL _ _;exact contract H enc W base args ds gs before hval hW (laidIs▸hL)
end Go.Proofs.YtnkcfkjeeennmaaGreatDoor.WriterCrash
