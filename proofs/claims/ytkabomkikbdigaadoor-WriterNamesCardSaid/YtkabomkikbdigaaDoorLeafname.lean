/- The walk of WriterNames: the leaf's name, by the program and by the document. What the rows' list gives: the table of powers of ten. -/
import Derived.Test.YtkabomkikbdigaaDoorDec
import Derived.Test.YtkabomkikbdigaaDoorArgs
import Derived.Lib.LaidTab
namespace Go.Proofs.YtkabomkikbdigaaDoor.WriterNames
open Go.ChangeShapes Go.WideShapes Go.ChangeAt Go.RowKit Go.Lib

theorem Ext.grow (w : World) (k : Nat) (os : Array Obj) : Ext w (Sort.grow (w.drewN k) os) :=
  Ext.of_below (by
    have : Below w.heap.size (w.drewN k) (Sort.grow (w.drewN k) os) := ⟨rfl, rfl, rfl, by simp [Sort.grow, World.drewN], fun b hb => by simp [Sort.grow, World.drewN, Array.getElem?_append, hb]⟩
    exact ⟨rfl, rfl, rfl, this.size, fun b hb => this.block b hb⟩)
/-- The list of the row, as three tables of bare numbers. -/
def laidL : List (String × DataW Unit) := Rows.writerNamesRow.laid
theorem laid_plain : (laidL.filter fun x => x.2.handleName?.isNone) = laidL := by kernel_rfl
theorem laid_hand : (laidL.filter fun x => x.2.handleName?.isSome) = [] := by kernel_rfl
theorem laid_split : laidL = laidL.head! :: laidL.tail.head! :: ("internal/strconv.uint64pow10", tabData .u64 Lib.pow10Tab) :: [] := by kernel_rfl
theorem tab_of_laid {W : World} (h : laidMetH Tryd.prog laidL W) : Lib.TabIs Tryd.prog W "internal/strconv.uint64pow10" .u64 Lib.pow10Tab := by
  unfold laidMetH at h
  rw [laid_hand] at h
  have h1 : laidMet Tryd.prog laidL W := h
  rw [laid_split] at h1
  exact tabIs_of_head (g := 17) (t := 142) (e := 22) (n := 20) (by kernel_rfl) (by kernel_rfl) Tryd.underlying142 Tryd.underlying22 (by kernel_rfl) (by kernel_rfl) (laidMet.tail (laidMet.tail h1))
theorem genv_of_laid {W : World} (h : laidMetH Tryd.prog laidL W) : ∃ _ : Unit, Lib.TabIs Tryd.prog W "internal/strconv.uint64pow10" .u64 Lib.pow10Tab := ⟨(), tab_of_laid h⟩
def tabOf (k : IntKind) (zs : List Int) : Array Value := (zs.map fun z => Value.int k z).toArray
def numsOf : DataW Unit → List Int
  | .agg l => l.map fun | .lit (.int _ z) => z | _ => 0
  | _ => []
/-- A world for the witness: the three tables hold their numbers. -/
noncomputable def laidWorld (os : Os) : World :=
  let w0 := World.holding Tryd.prog os ⟨#[], #[], []⟩
  { w0 with heap := ((w0.heap.modify 18 fun
      | .cells _ t frozen => .cells (tabOf .u8 (numsOf laidL.head!.2)) t frozen
      | o => o).modify 19 fun
      | .cells _ t frozen => .cells (tabOf .u8 (numsOf laidL.tail.head!.2)) t frozen
      | o => o).modify 17 fun
      | .cells _ t frozen => .cells (tabOf .u64 Lib.pow10Tab) t frozen
      | o => o }
theorem laidWorld_met (os : Os) (args : Array Value) : laidMetH Tryd.prog laidL ((laidWorld os).forCall (fun _ _ => 0) ⟨#[], args, []⟩).memory := by
    unfold laidMetH
    rw [laid_hand]
    exact laidMet_of_run' 80 (by kernel_rfl) (by kernel_rfl)

def leafB : List UInt8 := [108, 101, 97, 102, 47]
theorem dec_len (u : Nat) (h : u < 18446744073709551616) : (Lib.decDigits u).length ≤ 20 := by
  rw [Lib.decDigits_length]
  by_cases h1 : 1 ≤ u
  · have := Lib.numDigits_eq u h1 h; split at this <;> omega
  · rw [Lib.nDigits_small (by omega)]; omega
/-- text.Decimal. -/
theorem decimal_any (u : Nat) (hu : u < 18446744073709551616) (w : World) (ht : Lib.TabIs Tryd.prog w "internal/strconv.uint64pow10" .u64 Lib.pow10Tab) :
    Calls Tryd.prog 39 #[.int .u64 u] w fun e w' => e = .returned (.string (str (Lib.decDigits u))) ∧ Ext w w' := by
  have C := fmtu u hu w ht
  clear ht
  go_enter Tryd.func39, Tryd.ntmps39
  go_wp2_with fail
  refine C.mono ?_
  rintro e w1 ⟨rfl, k, os, rfl⟩
  go_wp2_with fail
  go_ret
  exact ⟨rfl, Ext.grow w k os⟩
/-- writer.Leaf. -/
theorem leaf_any (u : Nat) (hu : u < 18446744073709551616) (w : World) (ht : Lib.TabIs Tryd.prog w "internal/strconv.uint64pow10" .u64 Lib.pow10Tab) :
    Calls Tryd.prog 11 #[.int .u64 u] w fun e w' => e = .returned (.string (str leafB ++ str (Lib.decDigits u))) ∧ Ext w w' := by
  have C := decimal_any u hu w ht
  have hl : ¬ 9223372036854775807 < 5 + (Lib.decDigits u).length := by have := dec_len u hu; omega
  clear ht
  go_enter Tryd.func11, Tryd.ntmps11
  go_wp2_with fail
  refine C.mono ?_
  rintro e w1 ⟨rfl, hU⟩
  go_wp2_with fail
  go_ret
  exact ⟨rfl, hU⟩
/-- The document's. -/
theorem rleaf_any (u : Nat) (hu : u < 18446744073709551616) (w : World) :
    Calls Tryd.prog 12 #[.int .u64 u] w fun e w' => e = .returned (.string (str leafB ++ str (Lib.decDigits u))) ∧ Ext w w' := by
  have C := rdec_any u hu w
  have hl : ¬ 9223372036854775807 < 5 + (Lib.decDigits u).length := by have := dec_len u hu; omega
  go_enter Tryd.func12, Tryd.ntmps12
  go_wp2_with fail
  refine C.mono ?_
  rintro e w1 ⟨rfl, hU⟩
  go_wp2_with fail
  go_ret
  exact ⟨rfl, hU⟩
/-- WriterNames. -/
theorem names_any (k : Int) (h0 : 0 ≤ k) (h1 : k ≤ 18446744073709551615) (w : World) (ht : Lib.TabIs Tryd.prog w "internal/strconv.uint64pow10" .u64 Lib.pow10Tab) :
    Calls Tryd.prog 3 #[.int .u64 k] w fun e w' => e = .returned (.bool true) ∧ Ext w w' := by
  obtain ⟨u, rfl⟩ : ∃ u : Nat, k = u := ⟨k.toNat, by omega⟩
  have C := leaf_any u (by omega) w ht
  have D := fun w1 => rleaf_any u (by omega) w1
  clear ht h0 h1
  generalize str leafB ++ str (Lib.decDigits u) = s at C D
  go_enter Tryd.func3, Tryd.ntmps3
  go_wp2_with fail
  refine C.mono ?_
  rintro e w1 ⟨rfl, hU⟩
  go_wp2_with fail
  refine (D _).mono ?_
  rintro e w2 ⟨rfl, hV⟩
  go_wp2_with fail
  go_ret
  exact ⟨by simp, hU.thenExt hV⟩
end Go.Proofs.YtkabomkikbdigaaDoor.WriterNames
