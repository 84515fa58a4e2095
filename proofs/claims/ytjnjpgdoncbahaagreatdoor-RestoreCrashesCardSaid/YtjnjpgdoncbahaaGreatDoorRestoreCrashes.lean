/-
  The Go statement RestoreCrashes holds: the call with any batches of texts and any numbers returns true, in every world that the row admits; the arguments read as they did.
-/
import Derived.Test.YtjnjpgdoncbahaaGreatDoorRestoreCrashesA
import Derived.Test.YtjnjpgdoncbahaaGreatDoorRestoreCrashesF
namespace Go.Proofs.YtjnjpgdoncbahaaGreatDoor.RestoreCrashes
open Go.ChangeShapes Go.WideShapes Go.ChangeAt Go.RowKit
theorem said:Rows.RestoreCrashesSaid:=
 OpenClaim.holds_of_cond 6 Tryz.f6 rfl rfl rfl rfl rfl rfl rfl ⟨rfl,rfl,rfl,rfl,rfl⟩ rfl rfl rfl rfl rfl (by kernel_rfl) Tryz.func6 closed
  (of_decide_eq_true (by kernel_rfl)) (by unfold Func.isWrapper;first | (rw[if_pos (by decide+kernel)];kernel_rfl) | (rw[if_neg (by decide+kernel)];exact ⟨rfl,rfl⟩))
  (fun os started H enc _ F=> by rw[OpenClaim.pre_eq_preRow];exact lifted os started H enc F)
theorem stand_batches:Tryz.pinned.checked.prog.wantsStandIn 101=false:=by kernel_rfl
theorem stand_intsN:Tryz.pinned.checked.prog.wantsStandIn 27=false:=by kernel_rfl
theorem plain(f:FuncId)(fn:Func)(hf:Tryz.pinned.checked.prog.funcNamed "cartulary/cartularylaw26.RestoreCrashes" =some f)(hfn:Tryz.pinned.checked.prog.funcs[f]? =some fn):
 true=Tryz.pinned.checked.prog.looks []∧∀(j:Nat) t,fn.params[j]? =some t→Tryz.pinned.checked.prog.wantsStandIn t=false:=by
 obtain rfl:f=6:=Option.some.inj ((show Tryz.prog.funcNamed "cartulary/cartularylaw26.RestoreCrashes" =some 6 by kernel_rfl).symm.trans hf) |>.symm;obtain rfl:fn=Tryz.f6:=(Option.some.inj (Tryz.func6.symm.trans hfn)).symm;refine ⟨by kernel_rfl,fun j t ht=> ?_⟩;rw[params] at ht;match j,ht with
 | 0,ht=>
  obtain rfl:101=t:=Option.some.inj ht;exact stand_batches
 | 1,ht=>
  obtain rfl:27=t:=Option.some.inj ht;exact stand_intsN
 | j+2,ht=> simp at ht
theorem card:Rows.RestoreCrashesCardSaid:=
 Claim7.holds_tied_plain_at .later [] _ _ _ _ said (fun _ h=> by cases h) (by kernel_rfl) (fun _ h=> by cases h) restoreCrashes_row_tie rfl ⟨rfl,rfl⟩ (by kernel_rfl) rfl plain (by kernel_rfl)
end Go.Proofs.YtjnjpgdoncbahaaGreatDoor.RestoreCrashes
