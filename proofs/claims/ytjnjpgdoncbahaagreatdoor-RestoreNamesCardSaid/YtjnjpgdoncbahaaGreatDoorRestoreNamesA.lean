/-
  The Go statement RestoreNames holds, its first part: the call with no arguments returns true, in every world that the row admits: nil and unmade stores, an empty one, one whose texts are wrong, a dead one are refused by Head, Open and Leaves with the chapter's errors.
-/
import Derived.Test.YtjnjpgdoncbahaaGreatDoorCards
import Derived.Test.YtjnjpgdoncbahaaGreatDoorTie
import Derived.Test.YtjnjpgdoncbahaaGreatDoorRsLives
import Derived.Test.YtjnjpgdoncbahaaGreatDoorHEq
import Derived.Deep.DeepWitnessRowRef
namespace Go.Proofs.YtjnjpgdoncbahaaGreatDoor.RestoreNames
open Go.ChangeShapes Go.WideShapes Go.ChangeAt Go.RowKit
set_option maxRecDepth 100000
theorem own:ownKnob Tryz.prog.godebug=none:=by kernel_rfl
theorem laidIs:Rows.restoreNamesRow.laid=laid25:=by kernel_rfl
theorem params:Tryz.f3.params=#[]:=by rfl
theorem contract(H:Type)(enc:TypeId×Value→H)(W:World)(base:Nat)(args:Array Value)(ds gs:List (DataW H))(before:List MemPlace)
 (hval:∀(j:Nat) t v,Tryz.f3.params[j]? =some t→args[j]? =some v→Value.okWide Tryz.prog W .any base t v)
 (hW:DataW.Whole enc Tryz.prog Tryz.f3.params.toList Rows.restoreNamesSpec.vars false W args.toList ds gs before) (hL:laidMetH Tryz.prog laid25 W):
 Calls Tryz.prog 3 args W fun e W'=> ∃v,e= .returned v∧Rows.restoreNamesSpec.post enc Tryz.prog Tryz.f3 false true false false W args v W':=by
 have hW':=hW;obtain ⟨p,q,hA0,hV,rfl,hfz,hnd⟩:=hW;have hA:DataW.TrodAll enc Tryz.prog W 0 (fun _=> true) true Tryz.f3.params.toList args.toList ds p:=hA0;have hA1:=hA;rw[params] at hA hval;obtain ⟨hargs,rfl,rfl⟩:=trodAll_nil hA;obtain rfl:args=#[]:=by cases args;simp_all
 obtain ⟨rfl,rfl⟩:=trodVars_none hV;obtain ⟨se,E⟩:=env_of_laid hL;refine (names26_any E).mono fun e W' ⟨he,hg⟩=> ?_;subst he;exact ⟨_,rfl,_,_,_,[],_,[],hW',trodAll_cons_mk (shut_bool Tryz.underlying4 _) trodAll_mk0,TrodAll_later ok_all (fun b hb=> hg.block b hb id) (by rw[params];decide) hA1,rfl,Ext.kept hg _,fun h=> by cases h⟩
abbrev wargs:Array Value:=#[]
theorem reads(os:Os){H:Type}(enc:TypeId×Value→H):∃places,DataW.whole enc Tryz.prog ((laidWorld25 os).forCall (fun _ _=> 0) ⟨#[],wargs,[]⟩).memory Tryz.f3.params.toList Rows.restoreNamesSpec.vars false wargs.toList 8=some ([],[],places):=
 ⟨[],by kernel_rfl⟩
theorem lifted(os:Os)(started:os.Started)(H:Type)(enc:TypeId×Value→H)(F:Stop.Interp):
 ReturnsInHanded {} Tryz.checked os 3 .any ((OpenSpec.ofChange Rows.restoreNamesSpec).preRow enc Tryz.prog Tryz.f3 Rows.restoreNamesRow.domain false Rows.restoreNamesRow.laid) (((OpenSpec.ofChange Rows.restoreNamesSpec).at F).post enc Tryz.prog Tryz.f3 false true false false):=by
 obtain ⟨places,hx⟩:=reads os enc;refine returnsInHanded_of_row (C:=Tryz.checked) (s:=OpenSpec.ofChange Rows.restoreNamesSpec) own started (by kernel_rfl) Tryz.func3
  (witness_row_atRef (enc:=enc) (C:=Tryz.checked) false (laidWorld25 os) wargs rfl (by kernel_rfl) (by kernel_rfl) (by kernel_rfl)
   (OpenSpec.preRow_of_cond 8 hx (by kernel_rfl) (fun k hk=> by cases hk) (by kernel_rfl) (laidIs.symm▸laidWorld25_met os _))) ?_
 intro W base args ds gs before hval hW _ _ _ hL _ _;exact contract H enc W base args ds gs before hval hW (laidIs▸hL)
end Go.Proofs.YtjnjpgdoncbahaaGreatDoor.RestoreNames
