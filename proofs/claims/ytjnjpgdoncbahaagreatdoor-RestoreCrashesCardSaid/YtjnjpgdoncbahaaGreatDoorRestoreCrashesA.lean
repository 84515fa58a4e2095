/-
  The Go statement RestoreCrashes holds, its first part: the call with any batches of texts and any numbers returns true, in every world that the row admits; the arguments read as they did.
-/
import Derived.Test.YtjnjpgdoncbahaaGreatDoorCards
import Derived.Test.YtjnjpgdoncbahaaGreatDoorTie
import Derived.Test.YtjnjpgdoncbahaaGreatDoorRsLives
import Derived.Test.YtjnjpgdoncbahaaGreatDoorOpenB26
import Derived.Test.YtjnjpgdoncbahaaGreatDoorHEq
import Derived.Deep.DeepWitnessRowRef
namespace Go.Proofs.YtjnjpgdoncbahaaGreatDoor.RestoreCrashes
open Go.ChangeShapes Go.WideShapes Go.ChangeAt Go.RowKit
set_option maxRecDepth 100000
theorem own:ownKnob Tryz.prog.godebug=none:=by kernel_rfl
theorem laidIs:Rows.restoreCrashesRow.laid=laid25:=by kernel_rfl
theorem params:Tryz.f6.params=#[101,27]:=by rfl
theorem contract(H:Type)(enc:TypeId×Value→H)(W:World)(base:Nat)(args:Array Value)(ds gs:List (DataW H))(before:List MemPlace)
 (hval:∀(j:Nat) t v,Tryz.f6.params[j]? =some t→args[j]? =some v→Value.okWide Tryz.prog W .any base t v)
 (hW:DataW.Whole enc Tryz.prog Tryz.f6.params.toList Rows.restoreCrashesSpec.vars false W args.toList ds gs before) (hL:laidMetH Tryz.prog laid25 W):
 Calls Tryz.prog 6 args W fun e W'=> ∃v,e= .returned v∧Rows.restoreCrashesSpec.post enc Tryz.prog Tryz.f6 false true false false W args v W':=by
 have hW':=hW;obtain ⟨p,q,hA0,hV,rfl,hfz,hnd⟩:=hW;have hA:DataW.TrodAll enc Tryz.prog W 0 (fun _=> true) true Tryz.f6.params.toList args.toList ds p:=hA0;have hA1:=hA;rw[params] at hA hval;obtain ⟨v0,vs0,d0,ds0,p0,q0,hargs,rfl,rfl,h0,r0⟩:=trodAll_cons hA;obtain ⟨v1,vs1,d1,ds1,p1,q1,rfl,rfl,rfl,h1,r1⟩:=trodAll_cons r0;obtain ⟨rfl,rfl,rfl⟩:=trodAll_nil r1;obtain rfl:args=#[v0,v1]:=by cases args;simp_all
 obtain ⟨rfl,rfl⟩:=trodVars_none hV;obtain ⟨a0,c0,bs0,rfl,hz0,hr0⟩:=batches_arg (hval 0 _ v0 rfl rfl) h0;obtain ⟨a1,c1,zs1,rfl,hz1,hr1⟩:=intsN_arg (hval 1 _ v1 rfl rfl) h1;obtain ⟨se,E⟩:=env_of_laid hL;refine (crashes26_any E hr0 hz0 hr1 hz1 c0 c1).mono fun e W' ⟨he,hg⟩=> ?_;subst he;exact ⟨_,rfl,_,_,_,[],_,[],hW',trodAll_cons_mk (shut_bool Tryz.underlying4 _) trodAll_mk0,TrodAll_later ok_all (fun b hb=> hg.block b hb id) (by rw[params];decide) hA1,rfl,Ext.kept hg _,fun h=> by cases h⟩
abbrev wargs:Array Value:=#[.slice none 0 0,.slice none 0 0]
theorem reads(os:Os){H:Type}(enc:TypeId×Value→H):∃places,DataW.whole enc Tryz.prog ((laidWorld25 os).forCall (fun _ _=> 0) ⟨#[],wargs,[]⟩).memory Tryz.f6.params.toList Rows.restoreCrashesSpec.vars false wargs.toList 8=some ([.nil,.nil],[],places):=
 ⟨[],by kernel_rfl⟩
theorem lifted(os:Os)(started:os.Started)(H:Type)(enc:TypeId×Value→H)(F:Stop.Interp):
 ReturnsInHanded {} Tryz.checked os 6 .any ((OpenSpec.ofChange Rows.restoreCrashesSpec).preRow enc Tryz.prog Tryz.f6 Rows.restoreCrashesRow.domain false Rows.restoreCrashesRow.laid) (((OpenSpec.ofChange Rows.restoreCrashesSpec).at F).post enc Tryz.prog Tryz.f6 false true false false):=by
 obtain ⟨places,hx⟩:=reads os enc;refine returnsInHanded_of_row (C:=Tryz.checked) (s:=OpenSpec.ofChange Rows.restoreCrashesSpec) own started (by kernel_rfl) Tryz.func6
  (witness_row_atRef (enc:=enc) (C:=Tryz.checked) false (laidWorld25 os) wargs rfl (by kernel_rfl) (by kernel_rfl) (by kernel_rfl)
   (OpenSpec.preRow_of_cond 8 hx (by kernel_rfl) (fun k hk=> by cases hk) (by kernel_rfl) (laidIs.symm▸laidWorld25_met os _))) ?_
 intro W base args ds gs before hval hW _ _ _ hL _ _;exact contract H enc W base args ds gs before hval hW (laidIs▸hL)
end Go.Proofs.YtjnjpgdoncbahaaGreatDoor.RestoreCrashes
