/- The walk of StoreNone. PRINTED by wip/tools/gen_nonew.py. -/
import Derived.Test.YtdkhnkhflbefbaaDoorStNone
namespace Go.Proofs.YtdkhnkhflbefbaaDoor
open Go.RowKit Go.Lib Go.Sort

set_option maxRecDepth 8000 in
set_option maxHeartbeats 8000000 in
theorem storeNone_any {B : Nat} {se : Nat → Addr} {w : World} (G : Genv B se w) (k : Int) (nm tx : ByteArray) (a : Option Addr) (n cap : Nat) (c : Int) :
    Calls Tryd.prog 3 #[.agg #[.int .i64 k, .string nm, .string tx, .slice a n cap, .int .i64 c]] w fun e w' => e = .returned (.bool true) ∧ Ext w w' := by
  have X := ((Upd.refl none' w).alloc (.cells #[.int .i64 k, .string nm, .string tx, .slice a n cap, .int .i64 c] 26)).alloc (.cells (stRow (.map none) (.slice none 0 0) zeroSt) 30)
  have hb := blk_alloc_lt (blk_alloc w (.cells #[.int .i64 k, .string nm, .string tx, .slice a n cap, .int .i64 c] 26)) (.cells (stRow (.map none) (.slice none 0 0) zeroSt) 30)
  have hz := blk_alloc (w.alloc (.cells #[.int .i64 k, .string nm, .string tx, .slice a n cap, .int .i64 c] 26)) (.cells (stRow (.map none) (.slice none 0 0) zeroSt) 30)
  rw [World.size_alloc] at hz
  have HB := Lib.hid hb
  have HZ : Hid (ZeroAt _ (w.heap.size + 1)) := Lib.hid hz
  have HX := Lib.hid X
  have HG := Lib.hid G
  have C := put_none (HG.out.ext HX.out) nm tx
  have b1 : World.cell? _ ⟨w.heap.size, 1, none⟩ = some (.string nm) := cell_of_blk HB.out 1
  have b2 : World.cell? _ ⟨w.heap.size, 2, none⟩ = some (.string tx) := cell_of_blk HB.out 2
  have b3 : World.cell? _ ⟨w.heap.size, 3, none⟩ = some (.slice a n cap) := cell_of_blk HB.out 3
  have b4 : World.cell? _ ⟨w.heap.size, 4, none⟩ = some (.int .i64 c) := cell_of_blk HB.out 4
  simp only [stRow, Int.natCast_zero] at HB HZ HX C b1 b2 b3 b4
  clear X hb hz G
  go_enter Tryd.func3, Tryd.ntmps3
  go_wp2_with fail
  generalize hW : (w.alloc (.cells #[.int .i64 k, .string nm, .string tx, .slice a n cap, .int .i64 c] 26)).alloc (.cells _ 30) = W at *
  refine C.mono ?_
  rintro e w1 ⟨rfl, rfl⟩
  have C := is0_any (HG.out.ext HX.out) (v := sv se 1) (x := some (1, none)) ⟨by decide, by decide, rfl⟩ 1
  rw [show (codeOf (some (1, none)) == 1 && (!placed (some (1, none)) || placeOf (some (1, none)) == 0)) = true from rfl] at C
  go_wp2_with fail
  refine C.mono ?_
  rintro e w2 ⟨rfl, u⟩
  have HX := Lib.hid (HX.out.trans u)
  have HB := Lib.hid (Ext.blk u HB.out)
  have HZ := Lib.hid (HZ.out.ext u)
  have b1 : World.cell? _ ⟨w.heap.size, 1, none⟩ = some (.string nm) := cell_of_blk HB.out 1
  have b2 : World.cell? _ ⟨w.heap.size, 2, none⟩ = some (.string tx) := cell_of_blk HB.out 2
  have b3 : World.cell? _ ⟨w.heap.size, 3, none⟩ = some (.slice a n cap) := cell_of_blk HB.out 3
  have b4 : World.cell? _ ⟨w.heap.size, 4, none⟩ = some (.int .i64 c) := cell_of_blk HB.out 4
  clear u C
  have C := put_zero (HG.out.ext HX.out) HZ.out nm tx
  go_wp2_with fail
  refine C.mono ?_
  rintro e w3 ⟨rfl, rfl⟩
  have C := is0_any (HG.out.ext HX.out) (v := sv se 1) (x := some (1, none)) ⟨by decide, by decide, rfl⟩ 1
  rw [show (codeOf (some (1, none)) == 1 && (!placed (some (1, none)) || placeOf (some (1, none)) == 0)) = true from rfl] at C
  go_wp2_with fail
  refine C.mono ?_
  rintro e w4 ⟨rfl, u⟩
  have HX := Lib.hid (HX.out.trans u)
  have HB := Lib.hid (Ext.blk u HB.out)
  have HZ := Lib.hid (HZ.out.ext u)
  have b1 : World.cell? _ ⟨w.heap.size, 1, none⟩ = some (.string nm) := cell_of_blk HB.out 1
  have b2 : World.cell? _ ⟨w.heap.size, 2, none⟩ = some (.string tx) := cell_of_blk HB.out 2
  have b3 : World.cell? _ ⟨w.heap.size, 3, none⟩ = some (.slice a n cap) := cell_of_blk HB.out 3
  have b4 : World.cell? _ ⟨w.heap.size, 4, none⟩ = some (.int .i64 c) := cell_of_blk HB.out 4
  clear u C
  have C := restart_none (HG.out.ext HX.out) a n cap c
  go_wp2_with fail
  refine C.mono ?_
  rintro e w5 ⟨rfl, u⟩
  have HX := Lib.hid (HX.out.trans u)
  have HB := Lib.hid (Ext.blk u HB.out)
  have HZ := Lib.hid (HZ.out.ext u)
  have b1 : World.cell? _ ⟨w.heap.size, 1, none⟩ = some (.string nm) := cell_of_blk HB.out 1
  have b2 : World.cell? _ ⟨w.heap.size, 2, none⟩ = some (.string tx) := cell_of_blk HB.out 2
  have b3 : World.cell? _ ⟨w.heap.size, 3, none⟩ = some (.slice a n cap) := cell_of_blk HB.out 3
  have b4 : World.cell? _ ⟨w.heap.size, 4, none⟩ = some (.int .i64 c) := cell_of_blk HB.out 4
  clear u C
  have C := is0_any (HG.out.ext HX.out) (v := sv se 1) (x := some (1, none)) ⟨by decide, by decide, rfl⟩ 1
  rw [show (codeOf (some (1, none)) == 1 && (!placed (some (1, none)) || placeOf (some (1, none)) == 0)) = true from rfl] at C
  go_wp2_with fail
  refine C.mono ?_
  rintro e w6 ⟨rfl, u⟩
  have HX := Lib.hid (HX.out.trans u)
  have HB := Lib.hid (Ext.blk u HB.out)
  have HZ := Lib.hid (HZ.out.ext u)
  have b1 : World.cell? _ ⟨w.heap.size, 1, none⟩ = some (.string nm) := cell_of_blk HB.out 1
  have b2 : World.cell? _ ⟨w.heap.size, 2, none⟩ = some (.string tx) := cell_of_blk HB.out 2
  have b3 : World.cell? _ ⟨w.heap.size, 3, none⟩ = some (.slice a n cap) := cell_of_blk HB.out 3
  have b4 : World.cell? _ ⟨w.heap.size, 4, none⟩ = some (.int .i64 c) := cell_of_blk HB.out 4
  clear u C
  have C := restart_zero (HG.out.ext HX.out) HZ.out a n cap c
  go_wp2_with fail
  refine C.mono ?_
  rintro e w7 ⟨rfl, u⟩
  have HX := Lib.hid (HX.out.trans u)
  have HB := Lib.hid (Ext.blk u HB.out)
  have HZ := Lib.hid (HZ.out.ext u)
  have b1 : World.cell? _ ⟨w.heap.size, 1, none⟩ = some (.string nm) := cell_of_blk HB.out 1
  have b2 : World.cell? _ ⟨w.heap.size, 2, none⟩ = some (.string tx) := cell_of_blk HB.out 2
  have b3 : World.cell? _ ⟨w.heap.size, 3, none⟩ = some (.slice a n cap) := cell_of_blk HB.out 3
  have b4 : World.cell? _ ⟨w.heap.size, 4, none⟩ = some (.int .i64 c) := cell_of_blk HB.out 4
  clear u C
  have C := is0_any (HG.out.ext HX.out) (v := sv se 1) (x := some (1, none)) ⟨by decide, by decide, rfl⟩ 1
  rw [show (codeOf (some (1, none)) == 1 && (!placed (some (1, none)) || placeOf (some (1, none)) == 0)) = true from rfl] at C
  go_wp2_with fail
  refine C.mono ?_
  rintro e w8 ⟨rfl, u⟩
  have HX := Lib.hid (HX.out.trans u)
  have HB := Lib.hid (Ext.blk u HB.out)
  have HZ := Lib.hid (HZ.out.ext u)
  have b1 : World.cell? _ ⟨w.heap.size, 1, none⟩ = some (.string nm) := cell_of_blk HB.out 1
  have b2 : World.cell? _ ⟨w.heap.size, 2, none⟩ = some (.string tx) := cell_of_blk HB.out 2
  have b3 : World.cell? _ ⟨w.heap.size, 3, none⟩ = some (.slice a n cap) := cell_of_blk HB.out 3
  have b4 : World.cell? _ ⟨w.heap.size, 4, none⟩ = some (.int .i64 c) := cell_of_blk HB.out 4
  clear u C
  have C := get_none (HG.out.ext HX.out) nm
  go_wp2_with fail
  refine C.mono ?_
  rintro e w9 ⟨rfl, u⟩
  have HX := Lib.hid (HX.out.trans u)
  have HB := Lib.hid (Ext.blk u HB.out)
  have HZ := Lib.hid (HZ.out.ext u)
  have b1 : World.cell? _ ⟨w.heap.size, 1, none⟩ = some (.string nm) := cell_of_blk HB.out 1
  have b2 : World.cell? _ ⟨w.heap.size, 2, none⟩ = some (.string tx) := cell_of_blk HB.out 2
  have b3 : World.cell? _ ⟨w.heap.size, 3, none⟩ = some (.slice a n cap) := cell_of_blk HB.out 3
  have b4 : World.cell? _ ⟨w.heap.size, 4, none⟩ = some (.int .i64 c) := cell_of_blk HB.out 4
  clear u C
  have C := get_zero (HG.out.ext HX.out) HZ.out nm
  go_wp2_with fail
  refine C.mono ?_
  rintro e w10 ⟨rfl, u⟩
  have HX := Lib.hid (HX.out.trans u)
  have HB := Lib.hid (Ext.blk u HB.out)
  have HZ := Lib.hid (HZ.out.ext u)
  have b1 : World.cell? _ ⟨w.heap.size, 1, none⟩ = some (.string nm) := cell_of_blk HB.out 1
  have b2 : World.cell? _ ⟨w.heap.size, 2, none⟩ = some (.string tx) := cell_of_blk HB.out 2
  have b3 : World.cell? _ ⟨w.heap.size, 3, none⟩ = some (.slice a n cap) := cell_of_blk HB.out 3
  have b4 : World.cell? _ ⟨w.heap.size, 4, none⟩ = some (.int .i64 c) := cell_of_blk HB.out 4
  clear u C
  have C := counts_none (HG.out.ext HX.out)
  go_wp2_with fail
  refine C.mono ?_
  rintro e w11 ⟨rfl, u⟩
  have HX := Lib.hid (HX.out.trans u)
  have HB := Lib.hid (Ext.blk u HB.out)
  have HZ := Lib.hid (HZ.out.ext u)
  have b1 : World.cell? _ ⟨w.heap.size, 1, none⟩ = some (.string nm) := cell_of_blk HB.out 1
  have b2 : World.cell? _ ⟨w.heap.size, 2, none⟩ = some (.string tx) := cell_of_blk HB.out 2
  have b3 : World.cell? _ ⟨w.heap.size, 3, none⟩ = some (.slice a n cap) := cell_of_blk HB.out 3
  have b4 : World.cell? _ ⟨w.heap.size, 4, none⟩ = some (.int .i64 c) := cell_of_blk HB.out 4
  clear u C
  have C := counts_zero (HG.out.ext HX.out) HZ.out
  go_wp2_with fail
  refine C.mono ?_
  rintro e w12 ⟨rfl, u⟩
  have HX := Lib.hid (HX.out.trans u)
  have HB := Lib.hid (Ext.blk u HB.out)
  have HZ := Lib.hid (HZ.out.ext u)
  have b1 : World.cell? _ ⟨w.heap.size, 1, none⟩ = some (.string nm) := cell_of_blk HB.out 1
  have b2 : World.cell? _ ⟨w.heap.size, 2, none⟩ = some (.string tx) := cell_of_blk HB.out 2
  have b3 : World.cell? _ ⟨w.heap.size, 3, none⟩ = some (.slice a n cap) := cell_of_blk HB.out 3
  have b4 : World.cell? _ ⟨w.heap.size, 4, none⟩ = some (.int .i64 c) := cell_of_blk HB.out 4
  clear u C
  have C := is0_any (HG.out.ext HX.out) (v := sv se 1) (x := some (1, none)) ⟨by decide, by decide, rfl⟩ 1
  rw [show (codeOf (some (1, none)) == 1 && (!placed (some (1, none)) || placeOf (some (1, none)) == 0)) = true from rfl] at C
  go_wp2_with fail
  refine C.mono ?_
  rintro e w13 ⟨rfl, u⟩
  have HX := Lib.hid (HX.out.trans u)
  have HB := Lib.hid (Ext.blk u HB.out)
  have HZ := Lib.hid (HZ.out.ext u)
  have b1 : World.cell? _ ⟨w.heap.size, 1, none⟩ = some (.string nm) := cell_of_blk HB.out 1
  have b2 : World.cell? _ ⟨w.heap.size, 2, none⟩ = some (.string tx) := cell_of_blk HB.out 2
  have b3 : World.cell? _ ⟨w.heap.size, 3, none⟩ = some (.slice a n cap) := cell_of_blk HB.out 3
  have b4 : World.cell? _ ⟨w.heap.size, 4, none⟩ = some (.int .i64 c) := cell_of_blk HB.out 4
  clear u C
  have C := is0_any (HG.out.ext HX.out) (v := sv se 1) (x := some (1, none)) ⟨by decide, by decide, rfl⟩ 1
  rw [show (codeOf (some (1, none)) == 1 && (!placed (some (1, none)) || placeOf (some (1, none)) == 0)) = true from rfl] at C
  go_wp2_with fail
  refine C.mono ?_
  rintro e w14 ⟨rfl, u⟩
  have HX := Lib.hid (HX.out.trans u)
  have HB := Lib.hid (Ext.blk u HB.out)
  have HZ := Lib.hid (HZ.out.ext u)
  have b1 : World.cell? _ ⟨w.heap.size, 1, none⟩ = some (.string nm) := cell_of_blk HB.out 1
  have b2 : World.cell? _ ⟨w.heap.size, 2, none⟩ = some (.string tx) := cell_of_blk HB.out 2
  have b3 : World.cell? _ ⟨w.heap.size, 3, none⟩ = some (.slice a n cap) := cell_of_blk HB.out 3
  have b4 : World.cell? _ ⟨w.heap.size, 4, none⟩ = some (.int .i64 c) := cell_of_blk HB.out 4
  clear u C
  have C := dead_none (HG.out.ext HX.out)
  go_wp2_with fail
  refine C.mono ?_
  rintro e w15 ⟨rfl, u⟩
  have HX := Lib.hid (HX.out.trans u)
  have HB := Lib.hid (Ext.blk u HB.out)
  have HZ := Lib.hid (HZ.out.ext u)
  have b1 : World.cell? _ ⟨w.heap.size, 1, none⟩ = some (.string nm) := cell_of_blk HB.out 1
  have b2 : World.cell? _ ⟨w.heap.size, 2, none⟩ = some (.string tx) := cell_of_blk HB.out 2
  have b3 : World.cell? _ ⟨w.heap.size, 3, none⟩ = some (.slice a n cap) := cell_of_blk HB.out 3
  have b4 : World.cell? _ ⟨w.heap.size, 4, none⟩ = some (.int .i64 c) := cell_of_blk HB.out 4
  clear u C
  have C := dead_zero (HG.out.ext HX.out) HZ.out
  go_wp2_with fail
  refine C.mono ?_
  rintro e w16 ⟨rfl, u⟩
  have HX := Lib.hid (HX.out.trans u)
  have HB := Lib.hid (Ext.blk u HB.out)
  have HZ := Lib.hid (HZ.out.ext u)
  have b1 : World.cell? _ ⟨w.heap.size, 1, none⟩ = some (.string nm) := cell_of_blk HB.out 1
  have b2 : World.cell? _ ⟨w.heap.size, 2, none⟩ = some (.string tx) := cell_of_blk HB.out 2
  have b3 : World.cell? _ ⟨w.heap.size, 3, none⟩ = some (.slice a n cap) := cell_of_blk HB.out 3
  have b4 : World.cell? _ ⟨w.heap.size, 4, none⟩ = some (.int .i64 c) := cell_of_blk HB.out 4
  clear u C
  have C := names_none (HG.out.ext HX.out)
  go_wp2_with fail
  refine C.mono ?_
  rintro e w17 ⟨rfl, u⟩
  have HX := Lib.hid (HX.out.trans u)
  have HB := Lib.hid (Ext.blk u HB.out)
  have HZ := Lib.hid (HZ.out.ext u)
  have b1 : World.cell? _ ⟨w.heap.size, 1, none⟩ = some (.string nm) := cell_of_blk HB.out 1
  have b2 : World.cell? _ ⟨w.heap.size, 2, none⟩ = some (.string tx) := cell_of_blk HB.out 2
  have b3 : World.cell? _ ⟨w.heap.size, 3, none⟩ = some (.slice a n cap) := cell_of_blk HB.out 3
  have b4 : World.cell? _ ⟨w.heap.size, 4, none⟩ = some (.int .i64 c) := cell_of_blk HB.out 4
  clear u C
  have C := names_zero (HG.out.ext HX.out) HZ.out
  go_wp2_with fail
  refine C.mono ?_
  rintro e w18 ⟨⟨az, cz, rfl⟩, u⟩
  have HX := Lib.hid (HX.out.trans u)
  have HB := Lib.hid (Ext.blk u HB.out)
  have HZ := Lib.hid (HZ.out.ext u)
  have b1 : World.cell? _ ⟨w.heap.size, 1, none⟩ = some (.string nm) := cell_of_blk HB.out 1
  have b2 : World.cell? _ ⟨w.heap.size, 2, none⟩ = some (.string tx) := cell_of_blk HB.out 2
  have b3 : World.cell? _ ⟨w.heap.size, 3, none⟩ = some (.slice a n cap) := cell_of_blk HB.out 3
  have b4 : World.cell? _ ⟨w.heap.size, 4, none⟩ = some (.int .i64 c) := cell_of_blk HB.out 4
  clear u C
  have C := alive12_any (HG.out.ext HX.out)
  go_wp2_with fail
  refine C.mono ?_
  rintro e w19 ⟨rfl, u⟩
  have HX := Lib.hid (HX.out.trans u)
  have HB := Lib.hid (Ext.blk u HB.out)
  have HZ := Lib.hid (HZ.out.ext u)
  have b1 : World.cell? _ ⟨w.heap.size, 1, none⟩ = some (.string nm) := cell_of_blk HB.out 1
  have b2 : World.cell? _ ⟨w.heap.size, 2, none⟩ = some (.string tx) := cell_of_blk HB.out 2
  have b3 : World.cell? _ ⟨w.heap.size, 3, none⟩ = some (.slice a n cap) := cell_of_blk HB.out 3
  have b4 : World.cell? _ ⟨w.heap.size, 4, none⟩ = some (.int .i64 c) := cell_of_blk HB.out 4
  clear u C
  go_wp2_with fail
  go_ret
  exact ⟨rfl, HX.out⟩
end Go.Proofs.YtdkhnkhflbefbaaDoor
