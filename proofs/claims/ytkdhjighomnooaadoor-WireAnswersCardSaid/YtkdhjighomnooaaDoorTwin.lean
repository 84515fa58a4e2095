/- The statements' copies of hashes with a mark behind: markHash, isHash, TwinHashes, TwinAnswer, LeftHashes, LeftAnswer. -/
import Derived.Test.YtkdhjighomnooaaDoorSame
import Derived.OwnWalk
namespace Go.Proofs.YtkdhjighomnooaaDoor
open Go.RowKit Go.Lib

def markH : List UInt8 := [97, 30, 0, 0, 0, 0, 0, 0, 0, 0, 0, 0, 0, 0, 0, 0, 0, 0, 0, 0, 0, 0, 0, 0, 0, 0, 0, 0, 0, 0, 0, 201]
abbrev markV : List Value := [.int .u8 97, .int .u8 30, .int .u8 0, .int .u8 0, .int .u8 0, .int .u8 0, .int .u8 0, .int .u8 0, .int .u8 0, .int .u8 0, .int .u8 0, .int .u8 0, .int .u8 0, .int .u8 0, .int .u8 0, .int .u8 0, .int .u8 0, .int .u8 0, .int .u8 0, .int .u8 0, .int .u8 0, .int .u8 0, .int .u8 0, .int .u8 0, .int .u8 0, .int .u8 0, .int .u8 0, .int .u8 0, .int .u8 0, .int .u8 0, .int .u8 0, .int .u8 201]
theorem markV_is : markH.map u8v = markV := by rfl
theorem markH_len : markH.length = 32 := rfl
theorem resM (tmps : Array Value) (w : World) (g : Nat) (cs : Array Value) (hp : tmps.getD 2 undef = .pointer (some ⟨g, 0, none⟩)) (hg : w.heap[g]? = some (.cells cs 70 (0, 0))) (hs : cs.size = 32) :
    (results Tryd.f52 tmps).run Tryd.prog w = .ok (.agg cs) w :=
  results_cell_row rfl tmps w g 70 cs (0, 0) _ hp hg Tryd.underlying70 rfl (by rw [hs]; exact hash_size')
theorem mark_one : ∀ u ∈ markV, u.oneCell' = true := by rw [← markV_is]; exact hash_one markH
set_option maxRecDepth 8000 in
theorem mark_any (w : World) : Calls Tryd.prog 52 #[.int .i64 7777] w fun e w' => e = .returned (.agg (markH.map u8v).toArray) ∧ Ext w w' := by
  rw [markV_is]
  have hb0 := blk_alloc w (.cells zero32 70)
  have hb := blk_setRow hb0 markV.toArray
  have X := ((Upd.refl none' w).alloc (.cells zero32 70)).setRow (g := w.heap.size) (.inl (Nat.le_refl _)) markV.toArray
  have HX := Lib.hid X
  have HB := Lib.hid hb
  have HB0 := Lib.hid hb0
  have HO := Lib.hid mark_one
  clear X hb hb0
  go_enter Tryd.func52, Tryd.ntmps52
  go_wp2_with (refine store_whole rfl 70 _ _ rfl w.heap.size rfl markV rfl hash_size' zero32.toList 70 HB0.out rfl HO.out ?_)
  exact bodyPost_ret (v := .agg markV.toArray) (resM _ _ w.heap.size markV.toArray rfl HB.out rfl) rfl ⟨rfl, HX.out⟩
theorem mark_same (w : World) : (Op.equalIn 10000 70 (.agg markV.toArray) (.agg markV.toArray)).run Tryd.prog w = .ok true w := by rw [← markV_is]; exact hash_same markH rfl w
set_option maxRecDepth 8000 in
theorem isHash_any (w : World) : Calls Tryd.prog 55 #[.agg (markH.map u8v).toArray, .int .i64 7777] w fun e w' => e = .returned (.bool true) ∧ Ext w w' := by
  rw [markV_is]
  have hb := blk_alloc w (.cells markV.toArray 70)
  have X := (Upd.refl none' w).alloc (.cells markV.toArray 70)
  have HX := Lib.hid X
  have HL := Lib.hid (fun (j : Nat) (v : Value) (hv : markV[j]? = some v) => show World.cell? _ ⟨w.heap.size, 0 + j, none⟩ = some v from by rw [cell_of_blk hb]; simpa using hv)
  have HS := Lib.hid mark_same
  clear X hb
  go_enter Tryd.func55, Tryd.ntmps55
  go_wp2_with (first
    | (refine wpList_loadAgg rfl 70 _ rfl w.heap.size 0 rfl markV Tryd.underlying70 rfl hash_size' HL.out ?_)
    | (refine wpList_eqlAgg rfl 70 _ _ _ rfl markV.toArray markV.toArray rfl rfl guard_hash (HS.out _) ?_))
  go_ret
  exact ⟨rfl, HX.out⟩
end Go.Proofs.YtkdhjighomnooaaDoor
