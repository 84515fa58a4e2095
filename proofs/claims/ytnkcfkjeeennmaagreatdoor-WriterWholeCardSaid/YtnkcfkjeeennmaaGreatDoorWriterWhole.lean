/-
  WriterWhole of the chapter 25 (writer) holds: the call returns true, whatever leaves and whatever cuts are given, in whatever world meets the row. No further condition beyond the row's own: the package-level variables that the row lists hold what the program's text gives them.
-/
import Derived.Test.YtnkcfkjeeennmaaGreatDoorWriterWholeA
import Derived.Test.YtnkcfkjeeennmaaGreatDoorWriterWholeF
namespace Go.Proofs.YtnkcfkjeeennmaaGreatDoor.WriterWhole
open Go.ChangeShapes Go.WideShapes Go.ChangeAt Go.RowKit

theorem said : Rows.WriterWholeSaid :=
  OpenClaim.holds_of_cond 7 Tryz.f7 rfl rfl rfl rfl rfl rfl rfl ⟨rfl, rfl, rfl, rfl, rfl⟩ rfl rfl rfl rfl rfl (by kernel_rfl) Tryz.func7 closed
    (of_decide_eq_true (by kernel_rfl)) (by unfold Func.isWrapper; first | (rw [if_pos (by decide +kernel)]; kernel_rfl) | (rw [if_neg (by decide +kernel)]; exact ⟨rfl, rfl⟩))
    (fun os started H enc _ F => by rw [OpenClaim.pre_eq_preRow]; exact lifted os started H enc F)

theorem stand_strs : Tryz.pinned.checked.prog.wantsStandIn 22 = false := by kernel_rfl
theorem stand_ints : Tryz.pinned.checked.prog.wantsStandIn 47 = false := by kernel_rfl
/-- No parameter wants a stand-in; the program's own looks are on. -/
theorem plain (f : FuncId) (fn : Func) (hf : Tryz.pinned.checked.prog.funcNamed "cartulary/cartularylaw25.WriterWhole" = some f) (hfn : Tryz.pinned.checked.prog.funcs[f]? = some fn) :
    true = Tryz.pinned.checked.prog.looks [] ∧ ∀ (j : Nat) t, fn.params[j]? = some t → Tryz.pinned.checked.prog.wantsStandIn t = false := by
  obtain rfl : f = 7 := Option.some.inj ((show Tryz.prog.funcNamed "cartulary/cartularylaw25.WriterWhole" = some 7 by kernel_rfl).symm.trans hf) |>.symm
  obtain rfl : fn = Tryz.f7 := (Option.some.inj (Tryz.func7.symm.trans hfn)).symm
  refine ⟨by kernel_rfl, fun j t ht => ?_⟩
  rw [params] at ht
  match j, ht with
  | 0, ht =>
    obtain rfl : 22 = t := Option.some.inj ht
    exact stand_strs
  | 1, ht =>
    obtain rfl : 47 = t := Option.some.inj ht
    exact stand_ints
  | j + 2, ht => simp at ht

/-- The card. -/
theorem card : Rows.WriterWholeCardSaid :=
  Claim7.holds_tied_plain_at .later [] _ _ _ _ said (fun _ h => by cases h) (by kernel_rfl) (fun _ h => by cases h) writerWhole_row_tie rfl ⟨rfl, rfl⟩ (by kernel_rfl) rfl plain (by kernel_rfl)
end Go.Proofs.YtnkcfkjeeennmaaGreatDoor.WriterWhole
