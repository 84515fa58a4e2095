/-
  'cartularylaw26.RestoreFails': WHATEVER THE INPUT: true; the input reads as it did.
-/
import Derived.Test.YtjnjpgdoncbahaaGreatDoorCards
import Derived.Test.YtjnjpgdoncbahaaGreatDoorTie
import Derived.Test.YtjnjpgdoncbahaaGreatDoorRsLives
import Derived.Test.YtjnjpgdoncbahaaGreatDoorHEq
import Derived.Deep.DeepWitnessRowRef
namespace Go.Proofs.YtjnjpgdoncbahaaGreatDoor.RestoreFails
open Go.ChangeShapes Go.WideShapes Go.ChangeAt Go.RowKit
set_option maxRecDepth 100000
theorem own:ownKnob Tryz.prog.godebug=none:=by kernel_rfl
theorem laidIs:Rows.restoreFailsUptoRow.laid=laid25:=by kernel_rfl
theorem params:Tryz.f4.params=#[34,27]:=by rfl
theorem contract(H:Type)(enc:TypeId×Value→H)(W:World)(base:Nat)(args:Array Value)(ds gs:List (DataW H))(before:List MemPlace)
 (hval:∀(j:Nat) t v,Tryz.f4.params[j]? =some t→args[j]? =some v→Value.okWide Tryz.prog W .any base t v)
 (hW:DataW.Whole enc Tryz.prog Tryz.f4.params.toList Rows.restoreFailsSpec.vars false W args.toList ds gs before) (hL:laidMetH Tryz.prog laid25 W) (hk:Rows.uptoSmall H (ds++gs)=true):
 Calls Tryz.prog 4 args W fun e W'=> ∃v,e= .returned v∧Rows.restoreFailsSpec.post enc Tryz.prog Tryz.f4 false true false false W args v W':=by
 have hW':=hW;obtain ⟨p,q,hA0,hV,rfl,hfz,hnd⟩:=hW;have hA:DataW.TrodAll enc Tryz.prog W 0 (fun _=> true) true Tryz.f4.params.toList args.toList ds p:=hA0;have hA1:=hA;rw[params] at hA hval;obtain ⟨v0,vs0,d0,ds0,p0,q0,hargs,rfl,rfl,h0,r0⟩:=trodAll_cons hA;obtain ⟨v1,vs1,d1,ds1,p1,q1,rfl,rfl,rfl,h1,r1⟩:=trodAll_cons r0;obtain ⟨rfl,rfl,rfl⟩:=trodAll_nil r1;obtain rfl:args=#[v0,v1]:=by cases args;simp_all
 obtain ⟨rfl,rfl⟩:=trodVars_none hV;have hk:=bound_all hk;simp only[List.append_nil,List.cons_append,List.nil_append,Rows.uptoBulkAll] at hk;obtain ⟨a0,c0,ls0,rfl,hr0,hb0,hs90⟩:=leaves_arg (hval 0 _ v0 rfl rfl) h0;obtain ⟨a1,c1,zs1,rfl,hr1,hb1⟩:=intsB_arg (hval 1 _ v1 rfl rfl) h1;obtain ⟨se,E⟩:=env_of_laid hL;refine (fails26_any E hr0 (by omega) hr1 (by omega) c0 c1).mono fun e W' ⟨he,hg⟩=> ?_;subst he;exact ⟨_,rfl,_,_,_,[],_,[],hW',trodAll_cons_mk (shut_bool Tryz.underlying4 _) trodAll_mk0,TrodAll_later ok_all (fun b hb=> hg.block b hb id) (by rw[params];decide) hA1,rfl,Ext.kept hg _,fun h=> by cases h⟩
abbrev wargs:Array Value:=#[.slice none 0 0,.slice none 0 0]
theorem reads(os:Os){H:Type}(enc:TypeId×Value→H):∃places,DataW.whole enc Tryz.prog ((laidWorld25 os).forCall (fun _ _=> 0) ⟨#[],wargs,[]⟩).memory Tryz.f4.params.toList Rows.restoreFailsSpec.vars false wargs.toList 8=some ([.nil,.nil],[],places):=
 ⟨[],by kernel_rfl⟩
theorem lifted(os:Os)(started:os.Started)(H:Type)(enc:TypeId×Value→H)(F:Stop.Interp):
 ReturnsInHanded {} Tryz.checked os 4 .any ((Rows.OpenSpec.upto Rows.restoreFailsSpec).preRow enc Tryz.prog Tryz.f4 Rows.restoreFailsUptoRow.domain false Rows.restoreFailsUptoRow.laid) (((Rows.OpenSpec.upto Rows.restoreFailsSpec).at F).post enc Tryz.prog Tryz.f4 false true false false):=by
 obtain ⟨places,hx⟩:=reads os enc;refine returnsInHanded_of_row (C:=Tryz.checked) (s:=Rows.OpenSpec.upto Rows.restoreFailsSpec) own started (by kernel_rfl) Tryz.func4
  (witness_row_atRef (enc:=enc) (C:=Tryz.checked) false (laidWorld25 os) wargs rfl (by kernel_rfl) (by kernel_rfl) (by kernel_rfl)
   (OpenSpec.preRow_of_cond 8 hx (by kernel_rfl) (fun k hk=> by cases hk;kernel_rfl) (by kernel_rfl) (laidIs.symm▸laidWorld25_met os _))) ?_
 intro W base args ds gs before hval hW _ hcond _ hL _ _;exact contract H enc W base args ds gs before hval hW (laidIs▸hL) (hcond _ rfl)
end Go.Proofs.YtjnjpgdoncbahaaGreatDoor.RestoreFails
