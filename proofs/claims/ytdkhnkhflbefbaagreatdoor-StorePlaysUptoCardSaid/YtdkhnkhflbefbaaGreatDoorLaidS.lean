/- What the cell 'laid' of a store's row gives that reaches strconv.Itoa too: besides the sentinels and the handle, the powers of ten. A world for the witnesses. -/
import Derived.Test.YtdkhnkhflbefbaaGreatDoorLaid
import Derived.Test.YtdkhnkhflbefbaaGreatDoorWord
import Derived.Lib.LaidTab
import Derived.LaidSub
import Derived.Deep.Slices
namespace Go.Proofs.YtdkhnkhflbefbaaGreatDoor
open Go.ChangeShapes Go.WideShapes Go.ChangeAt Go.RowKit Go.Lib Go.Deep

def tab32 : List Int := [0, 1, 28, 2, 29, 14, 24, 3, 30, 22, 20, 15, 25, 17, 4, 8, 31, 27, 13, 23, 21, 19, 16, 7, 26, 12, 18, 6, 11, 5, 10, 9]
def tab64 : List Int := [0, 1, 56, 2, 57, 49, 28, 3, 61, 58, 42, 50, 38, 29, 17, 4, 62, 47, 59, 36, 45, 43, 51, 22, 53, 39, 33, 30, 24, 18, 12, 5, 63, 55, 48, 27, 60, 41, 37, 16, 46, 35, 44, 21, 52, 32, 23, 11, 54, 26, 40, 15, 34, 20, 31, 10, 25, 14, 19, 9, 13, 8, 7, 6]
def tab32D : String × DataW Unit := ("math/bits.deBruijn32tab", tabData .u8 tab32)
def tab64D : String × DataW Unit := ("math/bits.deBruijn64tab", tabData .u8 tab64)
def pow10D : String × DataW Unit := ("internal/strconv.uint64pow10", tabData .u64 Lib.pow10Tab)
/-- The list of the store's rows with strconv. -/
def laidS : List (String × DataW Unit) := tab32D :: tab64D :: pow10D :: laidL
theorem laidS_sent : (laidS.filter fun x => !(["math/bits.deBruijn32tab", "math/bits.deBruijn64tab", "internal/strconv.uint64pow10"].contains x.1)) = laidL := by kernel_rfl
theorem laidS_pow : (laidS.filter fun x => x.1 == "internal/strconv.uint64pow10") = [pow10D] := by kernel_rfl
theorem laidS_plain : (laidS.filter fun x => x.2.handleName?.isNone) = tab32D :: tab64D :: pow10D :: sentL.map sentD := by kernel_rfl
theorem pow_plain : (([pow10D] : List (String × DataW Unit)).filter fun x => x.2.handleName?.isSome) = [] := by kernel_rfl
theorem tab_of_laid {W : World} (h : laidMetH Tryz.prog laidS W) : Tab10 W := by
  have h2 := h.filter (fun x => x.1 == "internal/strconv.uint64pow10")
  rw [laidS_pow] at h2
  unfold laidMetH at h2
  rw [pow_plain] at h2
  exact tabIs_of_head (g := 17) (t := 270) (e := 116) (n := 20) (by kernel_rfl) (by kernel_rfl) Tryz.underlying270 Tryz.underlying116 (by kernel_rfl) (by kernel_rfl) h2
theorem sent_of_laidS {W : World} (h : laidMetH Tryz.prog laidS W) : ∃ se, Genv W.heap.size se W ∧ Tab10 W := by
  have h1 := h.filter (fun x => !(["math/bits.deBruijn32tab", "math/bits.deBruijn64tab", "internal/strconv.uint64pow10"].contains x.1))
  rw [laidS_sent] at h1
  obtain ⟨se, G⟩ := genv_of_laid h1
  exact ⟨se, G, tab_of_laid h⟩
def tabOf (k : IntKind) (zs : List Int) : Array Value := (zs.map fun z => Value.int k z).toArray
/-- A world for the witness. -/
noncomputable def laidWorldS (os : Os) : World :=
  let w0 := laidWorld os
  { w0 with heap := ((w0.heap.modify 18 fun
      | .cells _ t frozen => .cells (tabOf .u8 tab32) t frozen
      | o => o).modify 19 fun
      | .cells _ t frozen => .cells (tabOf .u8 tab64) t frozen
      | o => o).modify 17 fun
      | .cells _ t frozen => .cells (tabOf .u64 Lib.pow10Tab) t frozen
      | o => o }
theorem laidWorldS_met (os : Os) (args : Array Value) : laidMetH Tryz.prog laidS ((laidWorldS os).forCall (fun _ _ => 0) ⟨#[], args, []⟩).memory :=
  laidMetH_of_parts (by rw [laidS_plain]; exact laidMet_of_run' 80 (by kernel_rfl) (by kernel_rfl)) (by kernel_rfl)
end Go.Proofs.YtdkhnkhflbefbaaGreatDoor
