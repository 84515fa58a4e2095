/- The facts that the row of RestoreCrashes tells of the program, reckoned one by one. -/
import Derived.Test.YtjnjpgdoncbahaaGreatDoorCards
import Derived.JoinedCond
namespace Go.Proofs.YtjnjpgdoncbahaaGreatDoor.RestoreCrashes
set_option maxRecDepth 100000
theorem facts_inPlace:(Rows.restoreCrashesRow.inPlace==Tryz.pinned.checked.prog.inPlace 6)=true:=by kernel_rfl
theorem facts_unfollowed:(Rows.restoreCrashesRow.unfollowed==Tryz.pinned.checked.prog.unfollowed 6)=true:=by kernel_rfl
theorem facts_recurses:(Rows.restoreCrashesRow.recurses==Tryz.pinned.checked.prog.recurses 6)=true:=by kernel_rfl
theorem facts_named:(Rows.restoreCrashesRow.named==Tryz.pinned.checked.prog.varsNamed 6)=true:=by kernel_rfl
theorem closed:joinedFacts Tryz.pinned.checked.prog 6 Tryz.f6 (OpenSpec.ofChange Rows.restoreCrashesSpec).bare Rows.restoreCrashesRow=true:=by
 unfold joinedFacts;simp only[Bool.and_eq_true];and_intros;all_goals first
  | with_reducible exact facts_inPlace
  | with_reducible exact facts_unfollowed
  | with_reducible exact facts_recurses
  | with_reducible exact facts_named
  | kernel_rfl
end Go.Proofs.YtjnjpgdoncbahaaGreatDoor.RestoreCrashes
