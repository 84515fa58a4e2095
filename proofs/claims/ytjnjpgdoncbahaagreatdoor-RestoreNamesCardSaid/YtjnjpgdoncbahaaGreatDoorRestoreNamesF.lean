/- The facts that the row of RestoreNames tells of the program, reckoned one by one. -/
import Derived.Test.YtjnjpgdoncbahaaGreatDoorCards
import Derived.JoinedCond
namespace Go.Proofs.YtjnjpgdoncbahaaGreatDoor.RestoreNames
set_option maxRecDepth 100000
theorem facts_inPlace:(Rows.restoreNamesRow.inPlace==Tryz.pinned.checked.prog.inPlace 3)=true:=by kernel_rfl
theorem facts_unfollowed:(Rows.restoreNamesRow.unfollowed==Tryz.pinned.checked.prog.unfollowed 3)=true:=by kernel_rfl
theorem facts_recurses:(Rows.restoreNamesRow.recurses==Tryz.pinned.checked.prog.recurses 3)=true:=by kernel_rfl
theorem facts_named:(Rows.restoreNamesRow.named==Tryz.pinned.checked.prog.varsNamed 3)=true:=by kernel_rfl
theorem closed:joinedFacts Tryz.pinned.checked.prog 3 Tryz.f3 (OpenSpec.ofChange Rows.restoreNamesSpec).bare Rows.restoreNamesRow=true:=by
 unfold joinedFacts;simp only[Bool.and_eq_true];and_intros;all_goals first
  | with_reducible exact facts_inPlace
  | with_reducible exact facts_unfollowed
  | with_reducible exact facts_recurses
  | with_reducible exact facts_named
  | kernel_rfl
end Go.Proofs.YtjnjpgdoncbahaaGreatDoor.RestoreNames
