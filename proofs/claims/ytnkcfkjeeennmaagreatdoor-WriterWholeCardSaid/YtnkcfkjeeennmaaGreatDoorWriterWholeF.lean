/- The facts that the row of WriterWhole tells of the program, reckoned one by one. -/
import Derived.Test.YtnkcfkjeeennmaaGreatDoorCards
import Derived.JoinedCond
namespace Go.Proofs.YtnkcfkjeeennmaaGreatDoor.WriterWhole

theorem facts_inPlace : (Rows.writerWholeRow.inPlace == Tryz.pinned.checked.prog.inPlace 7) = true := by kernel_rfl
theorem facts_unfollowed : (Rows.writerWholeRow.unfollowed == Tryz.pinned.checked.prog.unfollowed 7) = true := by kernel_rfl
theorem facts_recurses : (Rows.writerWholeRow.recurses == Tryz.pinned.checked.prog.recurses 7) = true := by kernel_rfl
theorem facts_named : (Rows.writerWholeRow.named == Tryz.pinned.checked.prog.varsNamed 7) = true := by kernel_rfl
set_option maxRecDepth 100000 in
theorem closed : joinedFacts Tryz.pinned.checked.prog 7 Tryz.f7 (OpenSpec.ofChange Rows.writerWholeSpec).bare Rows.writerWholeRow = true := by
  unfold joinedFacts
  simp only [Bool.and_eq_true]
  and_intros
  all_goals first
    | with_reducible exact facts_inPlace
    | with_reducible exact facts_unfollowed
    | with_reducible exact facts_recurses
    | with_reducible exact facts_named
    | kernel_rfl
end Go.Proofs.YtnkcfkjeeennmaaGreatDoor.WriterWhole
