/-
  'cartularylaw26.RestoreFails': WHATEVER THE INPUT: true; the input reads as it did.
-/
import Derived.Test.YtjnjpgdoncbahaaGreatDoorRestoreFailsA
import Derived.Test.YtjnjpgdoncbahaaGreatDoorRestoreFailsF
namespace Go.Proofs.YtjnjpgdoncbahaaGreatDoor.RestoreFails
open Go.ChangeShapes Go.WideShapes Go.ChangeAt Go.RowKit
theorem said:Rows.RestoreFailsUptoSaid:=
 OpenClaim.holds_of_cond 4 Tryz.f4 rfl rfl rfl rfl rfl rfl rfl ⟨rfl,rfl,rfl,rfl,rfl⟩ rfl rfl rfl rfl rfl (by kernel_rfl) Tryz.func4 closed
  (of_decide_eq_true (by kernel_rfl)) (by unfold Func.isWrapper;first | (rw[if_pos (by decide+kernel)];kernel_rfl) | (rw[if_neg (by decide+kernel)];exact ⟨rfl,rfl⟩))
  (fun os started H enc _ F=> by rw[OpenClaim.pre_eq_preRow];exact lifted os started H enc F)
theorem stand_leaves:Tryz.pinned.checked.prog.wantsStandIn 34=false:=by kernel_rfl
theorem stand_intsB:Tryz.pinned.checked.prog.wantsStandIn 27=false:=by kernel_rfl
theorem plain(f:FuncId)(fn:Func)(hf:Tryz.pinned.checked.prog.funcNamed "cartulary/cartularylaw26.RestoreFails" =some f)(hfn:Tryz.pinned.checked.prog.funcs[f]? =some fn):
 true=Tryz.pinned.checked.prog.looks []∧∀(j:Nat) t,fn.params[j]? =some t→Tryz.pinned.checked.prog.wantsStandIn t=false:=by
 obtain rfl:f=4:=Option.some.inj ((show Tryz.prog.funcNamed "cartulary/cartularylaw26.RestoreFails" =some 4 by kernel_rfl).symm.trans hf) |>.symm;obtain rfl:fn=Tryz.f4:=(Option.some.inj (Tryz.func4.symm.trans hfn)).symm;refine ⟨by kernel_rfl,fun j t ht=> ?_⟩;rw[params] at ht;match j,ht with
 | 0,ht=>
  obtain rfl:34=t:=Option.some.inj ht;exact stand_leaves
 | 1,ht=>
  obtain rfl:27=t:=Option.some.inj ht;exact stand_intsB
 | j+2,ht=> simp at ht
theorem card:Rows.RestoreFailsUptoCardSaid:=
 Claim7.holds_tied_plain_at .later [] _ _ _ _ said (fun _ h=> by cases h) (by kernel_rfl) (fun _ h=> by cases h) restoreFailsUpto_row_tie rfl ⟨rfl,rfl⟩ (by kernel_rfl) rfl plain (by kernel_rfl)
end Go.Proofs.YtjnjpgdoncbahaaGreatDoor.RestoreFails
