/- The facts that the row of RestoreFails tells of the program, reckoned one by one. -/
import Derived.Test.YtjnjpgdoncbahaaGreatDoorCards
import Derived.JoinedCond
namespace Go.Proofs.YtjnjpgdoncbahaaGreatDoor.RestoreFails
set_option maxRecDepth 100000
theorem facts_inPlace:(Rows.restoreFailsUptoRow.inPlace==Tryz.pinned.checked.prog.inPlace 4)=true:=by kernel_rfl
theorem facts_unfollowed:(Rows.restoreFailsUptoRow.unfollowed==Tryz.pinned.checked.prog.unfollowed 4)=true:=by kernel_rfl
theorem facts_recurses:(Rows.restoreFailsUptoRow.recurses==Tryz.pinned.checked.prog.recurses 4)=true:=by kernel_rfl
theorem facts_named:(Rows.restoreFailsUptoRow.named==Tryz.pinned.checked.prog.varsNamed 4)=true:=by kernel_rfl
theorem closed:joinedFacts Tryz.pinned.checked.prog 4 Tryz.f4 (Rows.OpenSpec.upto Rows.restoreFailsSpec).bare Rows.restoreFailsUptoRow=true:=by
 unfold joinedFacts;simp only[Bool.and_eq_true];and_intros;all_goals first
  | with_reducible exact facts_inPlace
  | with_reducible exact facts_unfollowed
  | with_reducible exact facts_recurses
  | with_reducible exact facts_named
  | kernel_rfl
end Go.Proofs.YtjnjpgdoncbahaaGreatDoor.RestoreFails
