/- A store that is not there, and one that no call made: every function by a contract. PRINTED by wip/tools/gen_stnone.py. -/
import Derived.Test.YtdkhnkhflbefbaaDoorAlive12
namespace Go.Proofs.YtdkhnkhflbefbaaDoor
open Go.RowKit Go.Lib Go.Sort

abbrev zeroSt : StD := ⟨[], [], 0, 0, 0, false⟩
def ZeroAt (w : World) (b : Nat) : Prop := w.heap[b]? = some (.cells (stRow (.map none) (.slice none 0 0) zeroSt) 30 (0, 0))
theorem ZeroAt.ext {w w' : World} {b : Nat} (h : ZeroAt w b) (u : Ext w w') : ZeroAt w' b := Ext.blk u h
set_option maxRecDepth 8000 in
set_option maxHeartbeats 2000000 in
theorem refused_none {B : Nat} {se : Nat → Addr} {w : World} (G : Genv B se w) (s : ByteArray) :
    Calls Tryd.prog 20 #[.pointer none, .string s] w fun e w' => e = .returned (sv se 1) ∧ w = w' := by
  have g1 : w.cell? ⟨1, 0, none⟩ = some (sv se 1) := G.cell 1 (by omega) (by omega)
  clear G
  go_enter Tryd.func20, Tryd.ntmps20
  go_wp2_with fail
  go_ret
  exact ⟨rfl, rfl⟩
set_option maxRecDepth 8000 in
set_option maxHeartbeats 2000000 in
theorem put_none {B : Nat} {se : Nat → Addr} {w : World} (G : Genv B se w) (s t : ByteArray) :
    Calls Tryd.prog 7 #[.pointer none, .string s, .string t] w fun e w' => e = .returned (sv se 1) ∧ w = w' := by
  have C := refused_none G s
  clear G
  go_enter Tryd.func7, Tryd.ntmps7
  go_wp2_with fail
  refine C.mono ?_
  rintro e w2 ⟨rfl, rfl⟩
  go_wp2_with fail
  go_ret
  exact ⟨rfl, rfl⟩
set_option maxRecDepth 8000 in
set_option maxHeartbeats 2000000 in
theorem restart_none {B : Nat} {se : Nat → Addr} {w : World} (G : Genv B se w) (a : Option Addr) (n cap : Nat) (c : Int) :
    Calls Tryd.prog 8 #[.pointer none, .agg #[.slice a n cap, .int .i64 c]] w fun e w' => e = .returned (sv se 1) ∧ Ext w w' := by
  have X := (Upd.refl none' w).alloc (.cells #[.slice a n cap, .int .i64 c] 24)
  have g1 : World.cell? _ ⟨1, 0, none⟩ = some (sv se 1) := (G.ext X).cell 1 (by omega) (by omega)
  have HX := Lib.hid X
  clear G X
  go_enter Tryd.func8, Tryd.ntmps8
  go_wp2_with fail
  go_ret
  exact ⟨rfl, HX.out⟩
set_option maxRecDepth 8000 in
set_option maxHeartbeats 2000000 in
theorem get_none {B : Nat} {se : Nat → Addr} {w : World} (G : Genv B se w) (s : ByteArray) :
    Calls Tryd.prog 9 #[.pointer none, .string s] w fun e w' => e = .returned (.tuple #[.string ⟨#[]⟩, sv se 1]) ∧ Ext w w' := by
  have X := (Upd.refl none' w).alloc (.cells #[.pointer none] 27)
  have hx := blk_alloc w (.cells #[.pointer none] 27)
  have p0 : World.cell? _ ⟨w.heap.size, 0, none⟩ = some (.pointer none) := cell_of_blk hx 0
  have C := refused_none (G.ext X) s
  have HX := Lib.hid X
  clear G X hx
  go_enter Tryd.func9, Tryd.ntmps9
  go_wp2_with fail
  refine C.mono ?_
  rintro e w2 ⟨rfl, rfl⟩
  go_wp2_with fail
  go_ret2
  exact ⟨rfl, HX.out⟩
set_option maxRecDepth 8000 in
set_option maxHeartbeats 2000000 in
theorem counts_none {B : Nat} {se : Nat → Addr} {w : World} (G : Genv B se w) :
    Calls Tryd.prog 10 #[.pointer none] w fun e w' => e = .returned (.tuple #[.int .i64 0, .int .i64 0]) ∧ Ext w w' := by
  clear G
  go_enter Tryd.func10, Tryd.ntmps10
  go_wp2_with fail
  go_ret2
  exact ⟨rfl, Upd.refl _ _⟩
set_option maxRecDepth 8000 in
set_option maxHeartbeats 2000000 in
theorem dead_none {B : Nat} {se : Nat → Addr} {w : World} (G : Genv B se w) :
    Calls Tryd.prog 11 #[.pointer none] w fun e w' => e = .returned (.bool false) ∧ Ext w w' := by
  clear G
  go_enter Tryd.func11, Tryd.ntmps11
  go_wp2_with fail
  go_ret
  exact ⟨rfl, Upd.refl _ _⟩
set_option maxRecDepth 8000 in
set_option maxHeartbeats 2000000 in
theorem refused_zero {B : Nat} {se : Nat → Addr} {w : World} {b : Nat} (G : Genv B se w) (Z : ZeroAt w b) (s : ByteArray) :
    Calls Tryd.prog 20 #[.pointer (some ⟨b, 0, none⟩), .string s] w fun e w' => e = .returned (sv se 1) ∧ w = w' := by
  have m0 : World.cell? w ⟨b, 0, none⟩ = some (.map none) := cell_of_blk Z 0
  have hm0 := map_hasnt
  have g1 : w.cell? ⟨1, 0, none⟩ = some (sv se 1) := G.cell 1 (by omega) (by omega)
  clear G Z
  go_enter Tryd.func20, Tryd.ntmps20
  go_wp2_with fail
  go_ret
  exact ⟨rfl, rfl⟩
set_option maxRecDepth 8000 in
set_option maxHeartbeats 2000000 in
theorem put_zero {B : Nat} {se : Nat → Addr} {w : World} {b : Nat} (G : Genv B se w) (Z : ZeroAt w b) (s t : ByteArray) :
    Calls Tryd.prog 7 #[.pointer (some ⟨b, 0, none⟩), .string s, .string t] w fun e w' => e = .returned (sv se 1) ∧ w = w' := by
  have C := refused_zero G Z s
  clear G Z
  go_enter Tryd.func7, Tryd.ntmps7
  go_wp2_with fail
  refine C.mono ?_
  rintro e w2 ⟨rfl, rfl⟩
  go_wp2_with fail
  go_ret
  exact ⟨rfl, rfl⟩
set_option maxRecDepth 8000 in
set_option maxHeartbeats 2000000 in
theorem restart_zero {B : Nat} {se : Nat → Addr} {w : World} {b : Nat} (G : Genv B se w) (Z : ZeroAt w b) (a : Option Addr) (n cap : Nat) (c : Int) :
    Calls Tryd.prog 8 #[.pointer (some ⟨b, 0, none⟩), .agg #[.slice a n cap, .int .i64 c]] w fun e w' => e = .returned (sv se 1) ∧ Ext w w' := by
  have X := (Upd.refl none' w).alloc (.cells #[.slice a n cap, .int .i64 c] 24)
  have m0 : World.cell? _ ⟨b, 0, none⟩ = some (.map none) := cell_of_blk (Ext.blk X Z) 0
  have hm0 := map_hasnt
  have g1 : World.cell? _ ⟨1, 0, none⟩ = some (sv se 1) := (G.ext X).cell 1 (by omega) (by omega)
  have HX := Lib.hid X
  clear G X Z
  go_enter Tryd.func8, Tryd.ntmps8
  go_wp2_with fail
  go_ret
  exact ⟨rfl, HX.out⟩
set_option maxRecDepth 8000 in
set_option maxHeartbeats 2000000 in
theorem get_zero {B : Nat} {se : Nat → Addr} {w : World} {b : Nat} (G : Genv B se w) (Z : ZeroAt w b) (s : ByteArray) :
    Calls Tryd.prog 9 #[.pointer (some ⟨b, 0, none⟩), .string s] w fun e w' => e = .returned (.tuple #[.string ⟨#[]⟩, sv se 1]) ∧ Ext w w' := by
  have X := (Upd.refl none' w).alloc (.cells #[.pointer (some ⟨b, 0, none⟩)] 27)
  have hx := blk_alloc w (.cells #[.pointer (some ⟨b, 0, none⟩)] 27)
  have p0 : World.cell? _ ⟨w.heap.size, 0, none⟩ = some (.pointer (some ⟨b, 0, none⟩)) := cell_of_blk hx 0
  have C := refused_zero (G.ext X) (Z.ext X) s
  have HX := Lib.hid X
  clear G X hx Z
  go_enter Tryd.func9, Tryd.ntmps9
  go_wp2_with fail
  refine C.mono ?_
  rintro e w2 ⟨rfl, rfl⟩
  go_wp2_with fail
  go_ret2
  exact ⟨rfl, HX.out⟩
set_option maxRecDepth 8000 in
set_option maxHeartbeats 2000000 in
theorem counts_zero {B : Nat} {se : Nat → Addr} {w : World} {b : Nat} (G : Genv B se w) (Z : ZeroAt w b) :
    Calls Tryd.prog 10 #[.pointer (some ⟨b, 0, none⟩)] w fun e w' => e = .returned (.tuple #[.int .i64 0, .int .i64 0]) ∧ Ext w w' := by
  have m3 : World.cell? w ⟨b, 3, none⟩ = some (.int .i64 0) := cell_of_blk Z 3
  have m4 : World.cell? w ⟨b, 4, none⟩ = some (.int .i64 0) := cell_of_blk Z 4
  have hm0 := map_hasnt
  clear G Z
  go_enter Tryd.func10, Tryd.ntmps10
  go_wp2_with fail
  go_quiet (fail)
  go_wp2_with fail
  go_ret2
  exact ⟨rfl, (Upd.refl _ _).drewN _⟩
set_option maxRecDepth 8000 in
set_option maxHeartbeats 2000000 in
theorem dead_zero {B : Nat} {se : Nat → Addr} {w : World} {b : Nat} (G : Genv B se w) (Z : ZeroAt w b) :
    Calls Tryd.prog 11 #[.pointer (some ⟨b, 0, none⟩)] w fun e w' => e = .returned (.bool false) ∧ Ext w w' := by
  have m5 : World.cell? w ⟨b, 5, none⟩ = some (.bool false) := cell_of_blk Z 5
  have hm0 := map_hasnt
  clear G Z
  go_enter Tryd.func11, Tryd.ntmps11
  go_wp2_with fail
  go_ret
  exact ⟨rfl, Upd.refl _ _⟩
set_option maxRecDepth 8000 in
set_option maxHeartbeats 2000000 in
theorem names_none {B : Nat} {se : Nat → Addr} {w : World} (G : Genv B se w) :
    Calls Tryd.prog 12 #[.pointer none] w fun e w' => e = .returned (.slice none 0 0) ∧ Ext w w' := by
  clear G
  go_enter Tryd.func12, Tryd.ntmps12
  go_wp2_with fail
  go_ret
  exact ⟨rfl, Upd.refl _ _⟩
set_option maxRecDepth 8000 in
set_option maxHeartbeats 2000000 in
theorem names_zero {B : Nat} {se : Nat → Addr} {w : World} {b : Nat} (G : Genv B se w) (Z : ZeroAt w b) :
    Calls Tryd.prog 12 #[.pointer (some ⟨b, 0, none⟩)] w fun e w' => (∃ a cap, e = .returned (.slice a 0 cap)) ∧ Ext w w' := by
  obtain ⟨j0, hj0, hjz0, hjz1, hjz2⟩ := info_parts info_str
  have m0 : World.cell? w ⟨b, 0, none⟩ = some (.map none) := cell_of_blk Z 0
  have HZ := Lib.hid Z
  have hlen : ∀ (w1 : World) ty, (Builtin.len_ #[28] ty #[.map none]).run Tryd.prog w1 = .ok (.int .i64 0) w1 := fun w1 ty => Maps.len_nil Tryd.underlying28 ty
  clear G Z
  go_enter Tryd.func12, Tryd.ntmps12
  go_wp2_with (at_make; refine wpList_make_own _ rfl _ _ 41 rfl w.heap.size 9 j0 (.string ⟨#[]⟩) 1 Tryd.underlying41 hj0 hjz0 hjz1 _ _ _ 0 rfl rfl rfl (by omega) (Nat.zero_le _) (Nat.le_refl _) ?_; intro w1 hrow1 hg1
               have E1 : Ext w w1 := (Upd.refl none' w).grown hg1 (fun k hk => by cases hk)
               have m0 : w1.cell? ⟨b, 0, none⟩ = some (.map none) := cell_of_blk (Ext.blk E1 HZ.out) 0
               have hrg := run_range_nilMap (P := Tryd.prog) w1 28 9 9 Tryd.underlying28
               have hnx : ∀ ty, (Instr.next (.pointer (some ⟨w1.heap.size, 0, none⟩)) false ty).run Tryd.prog (w1.alloc (.mapIter none 0 #[] 0)) = _ := fun ty => run_next_nilMap _ ty 0 0 #[])
  refine wp_loop_rounds 1 ?_
  rw [rounds_succ]
  have E2 := (Upd.refl none' w1).alloc (.mapIter none 0 #[] 0)
  have hrow2 := rows_upd hrow1 E2 (fun _ _ => id)
  have CS := sort_any (ss := []) hrow2 (by decide)
  simp only [List.length_nil, List.mergeSort_nil, List.map_nil] at CS
  have HE := Lib.hid (E1.trans E2)
  have HR := Lib.hid hrow2
  clear hrow1 hrow2 hg1 E1 E2
  go_wp2_with (refine CS.mono ?_; rintro e w' ⟨rfl, ho, hg⟩)
  go_ret
  exact ⟨⟨_, _, rfl⟩, HE.out.grown hg (fun k hk => by cases hk; exact .inl ((HR.out.lt _ rfl).1))⟩
end Go.Proofs.YtdkhnkhflbefbaaDoor
