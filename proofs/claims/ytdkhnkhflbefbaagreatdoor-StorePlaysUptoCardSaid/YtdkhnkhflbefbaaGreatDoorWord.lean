/- The statements' marks as texts: word, markText, isText by contracts. -/
import Derived.Test.YtdkhnkhflbefbaaGreatDoorWriter
import Derived.Test.YtdkhnkhflbefbaaGreatDoorShelf
import Derived.Lib.ItoaMem
import Derived.Lib.ItoaLen
namespace Go.Proofs.YtdkhnkhflbefbaaGreatDoor
open Go.RowKit Go.Lib

theorem Ext.grow' (w : World) (k : Nat) (os : Array Obj) : Ext w (Sort.grow (w.drewN k) os) :=
  Ext.of_below (by
    have : Below w.heap.size (w.drewN k) (Sort.grow (w.drewN k) os) := ⟨rfl, rfl, rfl, by simp [Sort.grow, World.drewN], fun b hb => by simp [Sort.grow, World.drewN, Array.getElem?_append, hb]⟩
    exact ⟨this.os, this.tape, this.output, this.size, this.block⟩)
/-- The library's table of powers of ten lies as its start-up code lays it. -/
def Tab10 (w : World) : Prop := Lib.TabIs Tryz.prog w "internal/strconv.uint64pow10" .u64 Lib.pow10Tab
theorem Tab10.ext {w w' : World} (h : Tab10 w) (u : Ext w w') : Tab10 w' := by
  unfold Tab10 Lib.TabIs World.var? at *
  cases hg : Tryz.prog.globalNamed "internal/strconv.uint64pow10" with
  | none => simp [hg] at h
  | some g =>
    simp only [hg, Option.bind_some] at h ⊢
    cases hb : w.heap[g]? with
    | none => simp [hb] at h
    | some o => rw [Ext.blk u hb]; rw [hb] at h; exact h
def wordL (n : Nat) : List UInt8 := 35 :: Lib.itoa (n : Int)
theorem wordL_str (n : Nat) : (⟨#[35]⟩ : ByteArray) ++ (⟨(Lib.itoa (n : Int)).toArray⟩ : ByteArray) = str (wordL n) := by
  apply ByteArray.ext
  simp [wordL, str, ByteArray.data_append]
theorem word_any (n : Nat) (hn : n ≤ 1000000000) {w : World} (T : Tab10 w) : Calls Tryz.prog 129 #[.int .i64 n] w fun e w' => e = .returned (.string (str (wordL n))) ∧ Ext w w' := by
  have C := Tryz.strconv_Itoa (n : Int) (by omega) (by omega) w T
  have hl : (Lib.itoa (n : Int)).length ≤ 21 := Lib.itoa_length_le n (by omega) (by omega)
  have hlen : ¬ 9223372036854775807 < 1 + (Lib.itoa (n : Int)).length := by omega
  have HW := Lib.hid (wordL_str n)
  generalize Lib.itoa (n : Int) = l at *
  generalize wordL n = r at *
  clear T
  go_enter Tryz.func129, Tryz.ntmps129
  go_wp2_with fail
  refine C.mono ?_
  rintro e w1 ⟨rfl, k, os, rfl⟩
  have U := Lib.hid (Ext.grow' w k os)
  go_wp2_with fail
  go_ret
  exact ⟨by rw [← HW.out]; rfl, U.out⟩
theorem markText_any (n : Nat) (hn : n ≤ 1000000000) {w : World} (T : Tab10 w) : Calls Tryz.prog 96 #[.int .i64 n] w fun e w' => e = .returned (.string (str (wordL n))) ∧ Ext w w' := by
  have C := word_any n hn T
  clear T
  go_enter Tryz.func96, Tryz.ntmps96
  go_wp2_with fail
  refine C.mono ?_
  rintro e w1 ⟨rfl, u⟩
  go_wp2_with fail
  go_ret
  exact ⟨rfl, u⟩
theorem isText_any (n : Nat) (hn : n ≤ 1000000000) {w : World} (T : Tab10 w) : Calls Tryz.prog 111 #[.string (str (wordL n)), .int .i64 n] w fun e w' => e = .returned (.bool true) ∧ Ext w w' := by
  have C := word_any n hn T
  clear T
  generalize str (wordL n) = s at *
  go_enter Tryz.func111, Tryz.ntmps111
  go_wp2_with fail
  refine C.mono ?_
  rintro e w1 ⟨rfl, u⟩
  go_wp2_with fail
  go_ret
  exact ⟨by simp, u⟩
end Go.Proofs.YtdkhnkhflbefbaaGreatDoor
