/- Rows of texts in memory; SameTexts of the same. (For the seats of the store.) A store that is not there, and one that no call made: every function by a contract. PRINTED by wip/tools/gen_stnone.py. -/
import Derived.Test.YtnkcfkjeeennmaaGreatDoorStNames
namespace Go.Proofs.YtnkcfkjeeennmaaGreatDoor
open Go.RowKit Go.Lib Go.Sort


def TextsAt (w : World) (a : Option Addr) (l : List ByteArray) : Prop := ∀ (i : Nat) (s : ByteArray), l[i]? = some s → s.size ≤ 9223372036854775807 ∧ ∃ b o, a = some ⟨b, o, none⟩ ∧ w.cell? ⟨b, o + i, none⟩ = some (.string s)
theorem TextsAt.later {w w' : World} {a : Option Addr} {l : List ByteArray} (h : TextsAt w a l) (u : Ext w w') : TextsAt w' a l := fun i s hs => by
  obtain ⟨h1, b, o, h2, h3⟩ := h i s hs
  exact ⟨h1, b, o, h2, Ext.cellv u h3⟩
theorem text_at {w : World} {a : Option Addr} {l : List ByteArray} (h : TextsAt w a l) (k : Nat) (hk : k < l.length) : ∃ g off, a = some ⟨g, off, none⟩ ∧ w.cell? ⟨g, off + k, none⟩ = some (.string l[k]) := by
  obtain ⟨_, b, o, h2, h3⟩ := h k _ (List.getElem?_eq_getElem hk)
  exact ⟨b, o, h2, h3⟩
def strs (l : List (List UInt8)) : List ByteArray := l.map fun b => ⟨b.toArray⟩
theorem texts_of_own {w : World} {B : Nat} {g cap n : Nat} {l : List (List UInt8)} (h : w.ownsRow B 9 1 (.slice (some ⟨g, 0, none⟩) n cap) n (l.map encStr)) (hl : ∀ x ∈ l, x.length ≤ 9223372036854775807) : TextsAt w (some ⟨g, 0, none⟩) (strs l) := fun i s hs => by
  unfold strs at hs
  rw [List.getElem?_map] at hs
  cases hx : l[i]? with
  | none => rw [hx] at hs; cases hs
  | some x =>
    rw [hx] at hs
    obtain rfl := Option.some.inj hs
    refine ⟨hl x (List.mem_of_getElem? hx), g, 0, rfl, ?_⟩
    have := h.cells (g := g) rfl i (encStr x) (by rw [List.getElem?_map, hx]; rfl)
    have ea : (⟨g, 0, none⟩ : Addr).add i = ⟨g, 0 + i, none⟩ := by unfold Addr.add; split <;> simp_all
    rw [ea] at this; exact this
set_option maxHeartbeats 2000000 in
theorem sameTexts_any {w : World} {a b : Option Addr} {l : List ByteArray} (h1 : TextsAt w a l) (h2 : TextsAt w b l) (ca cb : Nat) (hl : l.length ≤ 4611686018427387904) :
    Calls Tryz.prog 38 #[.slice a l.length ca, .slice b l.length cb] w fun e w' => e = .returned (.bool true) ∧ Ext w w' := by
  have H1 := Lib.hid h1
  have H2 := Lib.hid h2
  clear h1 h2
  go_enter Tryz.func38, Tryz.ntmps38
  go_wp2_with fail
  go_loopw [5] (fun iv wr => ∃ k : Nat, iv = .int .i64 k ∧ k ≤ l.length ∧ Ext w wr) (fun iv _ => l.length - (RowKit.intOf iv).toNat)
  case atStart => exact ⟨0, rfl, Nat.zero_le _, Upd.refl _ _⟩
  case round =>
    obtain ⟨k, rfl, hk, hx⟩ := hrel
    have HX := Lib.hid hx
    by_cases hlt : k < l.length
    · obtain ⟨g1, o1, rfl, c1⟩ := text_at (H1.out.later hx) k hlt
      obtain ⟨g2, o2, rfl, c2⟩ := text_at (H2.out.later hx) k hlt
      have hki : (k : Int) < l.length := by omega
      generalize l[k] = t at *
      clear hx
      go_wp2_with fail
      go_quiet (fail)
      go_wp2_with fail
      exact ⟨⟨k + 1, by simp, by omega, HX.out.drewN _⟩, by simp [RowKit.intOf]; omega⟩
    · obtain rfl : k = l.length := by omega
      clear hx
      have hki : ¬ (l.length : Int) < l.length := by omega
      go_wp2_with fail
      go_ret
      exact ⟨rfl, HX.out⟩

abbrev zeroSt : StD := ⟨[], [], 0, 0, 0, false⟩
def ZeroAt (w : World) (b : Nat) : Prop := w.heap[b]? = some (.cells (stRow (.map none) (.slice none 0 0) zeroSt) 51 (0, 0))
theorem ZeroAt.ext {w w' : World} {b : Nat} (h : ZeroAt w b) (u : Ext w w') : ZeroAt w' b := Ext.blk u h
set_option maxRecDepth 8000 in
set_option maxHeartbeats 2000000 in
theorem refused_none {B : Nat} {se : Nat → Addr} {w : World} (G : Genv B se w) (s : ByteArray) :
    Calls Tryz.prog 99 #[.pointer none, .string s] w fun e w' => e = .returned (sv se 1) ∧ w = w' := by
  have g1 : w.cell? ⟨0, 0, none⟩ = some (sv se 1) := G.cell 1 (by omega) (by omega)
  clear G
  go_enter Tryz.func99, Tryz.ntmps99
  go_wp2_with fail
  go_ret
  exact ⟨rfl, rfl⟩
set_option maxRecDepth 8000 in
set_option maxHeartbeats 2000000 in
theorem put_none {B : Nat} {se : Nat → Addr} {w : World} (G : Genv B se w) (s t : ByteArray) :
    Calls Tryz.prog 45 #[.pointer none, .string s, .string t] w fun e w' => e = .returned (sv se 1) ∧ w = w' := by
  have C := refused_none G s
  clear G
  go_enter Tryz.func45, Tryz.ntmps45
  go_wp2_with fail
  refine C.mono ?_
  rintro e w2 ⟨rfl, rfl⟩
  go_wp2_with fail
  go_ret
  exact ⟨rfl, rfl⟩
set_option maxRecDepth 8000 in
set_option maxHeartbeats 2000000 in
theorem restart_none {B : Nat} {se : Nat → Addr} {w : World} (G : Genv B se w) (a : Option Addr) (n cap : Nat) (c : Int) :
    Calls Tryz.prog 29 #[.pointer none, .agg #[.slice a n cap, .int .i64 c]] w fun e w' => e = .returned (sv se 1) ∧ Ext w w' := by
  have X := (Upd.refl none' w).alloc (.cells #[.slice a n cap, .int .i64 c] 49)
  have g1 : World.cell? _ ⟨0, 0, none⟩ = some (sv se 1) := (G.ext X).cell 1 (by omega) (by omega)
  have HX := Lib.hid X
  clear G X
  go_enter Tryz.func29, Tryz.ntmps29
  go_wp2_with fail
  go_ret
  exact ⟨rfl, HX.out⟩
set_option maxRecDepth 8000 in
set_option maxHeartbeats 2000000 in
theorem get_none {B : Nat} {se : Nat → Addr} {w : World} (G : Genv B se w) (s : ByteArray) :
    Calls Tryz.prog 73 #[.pointer none, .string s] w fun e w' => e = .returned (.tuple #[.string ⟨#[]⟩, sv se 1]) ∧ Ext w w' := by
  have X := (Upd.refl none' w).alloc (.cells #[.pointer none] 27)
  have hx := blk_alloc w (.cells #[.pointer none] 27)
  have p0 : World.cell? _ ⟨w.heap.size, 0, none⟩ = some (.pointer none) := cell_of_blk hx 0
  have C := refused_none (G.ext X) s
  have HX := Lib.hid X
  clear G X hx
  go_enter Tryz.func73, Tryz.ntmps73
  go_wp2_with fail
  refine C.mono ?_
  rintro e w2 ⟨rfl, rfl⟩
  go_wp2_with fail
  go_ret2
  exact ⟨rfl, HX.out⟩
set_option maxRecDepth 8000 in
set_option maxHeartbeats 2000000 in
theorem counts_none {B : Nat} {se : Nat → Addr} {w : World} (G : Genv B se w) :
    Calls Tryz.prog 33 #[.pointer none] w fun e w' => e = .returned (.tuple #[.int .i64 0, .int .i64 0]) ∧ Ext w w' := by
  clear G
  go_enter Tryz.func33, Tryz.ntmps33
  go_wp2_with fail
  go_ret2
  exact ⟨rfl, Upd.refl _ _⟩
set_option maxRecDepth 8000 in
set_option maxHeartbeats 2000000 in
theorem dead_none {B : Nat} {se : Nat → Addr} {w : World} (G : Genv B se w) :
    Calls Tryz.prog 30 #[.pointer none] w fun e w' => e = .returned (.bool false) ∧ Ext w w' := by
  clear G
  go_enter Tryz.func30, Tryz.ntmps30
  go_wp2_with fail
  go_ret
  exact ⟨rfl, Upd.refl _ _⟩
set_option maxRecDepth 8000 in
set_option maxHeartbeats 2000000 in
theorem refused_zero {B : Nat} {se : Nat → Addr} {w : World} {b : Nat} (G : Genv B se w) (Z : ZeroAt w b) (s : ByteArray) :
    Calls Tryz.prog 99 #[.pointer (some ⟨b, 0, none⟩), .string s] w fun e w' => e = .returned (sv se 1) ∧ w = w' := by
  have m0 : World.cell? w ⟨b, 0, none⟩ = some (.map none) := cell_of_blk Z 0
  have hm0 := map_hasnt
  have g1 : w.cell? ⟨0, 0, none⟩ = some (sv se 1) := G.cell 1 (by omega) (by omega)
  clear G Z
  go_enter Tryz.func99, Tryz.ntmps99
  go_wp2_with fail
  go_ret
  exact ⟨rfl, rfl⟩
set_option maxRecDepth 8000 in
set_option maxHeartbeats 2000000 in
theorem put_zero {B : Nat} {se : Nat → Addr} {w : World} {b : Nat} (G : Genv B se w) (Z : ZeroAt w b) (s t : ByteArray) :
    Calls Tryz.prog 45 #[.pointer (some ⟨b, 0, none⟩), .string s, .string t] w fun e w' => e = .returned (sv se 1) ∧ w = w' := by
  have C := refused_zero G Z s
  clear G Z
  go_enter Tryz.func45, Tryz.ntmps45
  go_wp2_with fail
  refine C.mono ?_
  rintro e w2 ⟨rfl, rfl⟩
  go_wp2_with fail
  go_ret
  exact ⟨rfl, rfl⟩
set_option maxRecDepth 8000 in
set_option maxHeartbeats 2000000 in
theorem restart_zero {B : Nat} {se : Nat → Addr} {w : World} {b : Nat} (G : Genv B se w) (Z : ZeroAt w b) (a : Option Addr) (n cap : Nat) (c : Int) :
    Calls Tryz.prog 29 #[.pointer (some ⟨b, 0, none⟩), .agg #[.slice a n cap, .int .i64 c]] w fun e w' => e = .returned (sv se 1) ∧ Ext w w' := by
  have X := (Upd.refl none' w).alloc (.cells #[.slice a n cap, .int .i64 c] 49)
  have m0 : World.cell? _ ⟨b, 0, none⟩ = some (.map none) := cell_of_blk (Ext.blk X Z) 0
  have hm0 := map_hasnt
  have g1 : World.cell? _ ⟨0, 0, none⟩ = some (sv se 1) := (G.ext X).cell 1 (by omega) (by omega)
  have HX := Lib.hid X
  clear G X Z
  go_enter Tryz.func29, Tryz.ntmps29
  go_wp2_with fail
  go_ret
  exact ⟨rfl, HX.out⟩
set_option maxRecDepth 8000 in
set_option maxHeartbeats 2000000 in
theorem get_zero {B : Nat} {se : Nat → Addr} {w : World} {b : Nat} (G : Genv B se w) (Z : ZeroAt w b) (s : ByteArray) :
    Calls Tryz.prog 73 #[.pointer (some ⟨b, 0, none⟩), .string s] w fun e w' => e = .returned (.tuple #[.string ⟨#[]⟩, sv se 1]) ∧ Ext w w' := by
  have X := (Upd.refl none' w).alloc (.cells #[.pointer (some ⟨b, 0, none⟩)] 27)
  have hx := blk_alloc w (.cells #[.pointer (some ⟨b, 0, none⟩)] 27)
  have p0 : World.cell? _ ⟨w.heap.size, 0, none⟩ = some (.pointer (some ⟨b, 0, none⟩)) := cell_of_blk hx 0
  have C := refused_zero (G.ext X) (Z.ext X) s
  have HX := Lib.hid X
  clear G X hx Z
  go_enter Tryz.func73, Tryz.ntmps73
  go_wp2_with fail
  refine C.mono ?_
  rintro e w2 ⟨rfl, rfl⟩
  go_wp2_with fail
  go_ret2
  exact ⟨rfl, HX.out⟩
set_option maxRecDepth 8000 in
set_option maxHeartbeats 2000000 in
theorem counts_zero {B : Nat} {se : Nat → Addr} {w : World} {b : Nat} (G : Genv B se w) (Z : ZeroAt w b) :
    Calls Tryz.prog 33 #[.pointer (some ⟨b, 0, none⟩)] w fun e w' => e = .returned (.tuple #[.int .i64 0, .int .i64 0]) ∧ Ext w w' := by
  have m3 : World.cell? w ⟨b, 3, none⟩ = some (.int .i64 0) := cell_of_blk Z 3
  have m4 : World.cell? w ⟨b, 4, none⟩ = some (.int .i64 0) := cell_of_blk Z 4
  have hm0 := map_hasnt
  clear G Z
  go_enter Tryz.func33, Tryz.ntmps33
  go_wp2_with fail
  go_quiet (fail)
  go_wp2_with fail
  go_ret2
  exact ⟨rfl, (Upd.refl _ _).drewN _⟩
set_option maxRecDepth 8000 in
set_option maxHeartbeats 2000000 in
theorem dead_zero {B : Nat} {se : Nat → Addr} {w : World} {b : Nat} (G : Genv B se w) (Z : ZeroAt w b) :
    Calls Tryz.prog 30 #[.pointer (some ⟨b, 0, none⟩)] w fun e w' => e = .returned (.bool false) ∧ Ext w w' := by
  have m5 : World.cell? w ⟨b, 5, none⟩ = some (.bool false) := cell_of_blk Z 5
  have hm0 := map_hasnt
  clear G Z
  go_enter Tryz.func30, Tryz.ntmps30
  go_wp2_with fail
  go_ret
  exact ⟨rfl, Upd.refl _ _⟩
set_option maxRecDepth 8000 in
set_option maxHeartbeats 2000000 in
theorem names_none {B : Nat} {se : Nat → Addr} {w : World} (G : Genv B se w) :
    Calls Tryz.prog 39 #[.pointer none] w fun e w' => e = .returned (.slice none 0 0) ∧ Ext w w' := by
  clear G
  go_enter Tryz.func39, Tryz.ntmps39
  go_wp2_with fail
  go_ret
  exact ⟨rfl, Upd.refl _ _⟩
set_option maxRecDepth 8000 in
set_option maxHeartbeats 2000000 in
theorem names_zero {B : Nat} {se : Nat → Addr} {w : World} {b : Nat} (G : Genv B se w) (Z : ZeroAt w b) :
    Calls Tryz.prog 39 #[.pointer (some ⟨b, 0, none⟩)] w fun e w' => (∃ a cap, e = .returned (.slice a 0 cap)) ∧ Ext w w' := by
  obtain ⟨j0, hj0, hjz0, hjz1, hjz2⟩ := info_parts info_str
  have m0 : World.cell? w ⟨b, 0, none⟩ = some (.map none) := cell_of_blk Z 0
  have HZ := Lib.hid Z
  have hlen : ∀ (w1 : World) ty, (Builtin.len_ #[46] ty #[.map none]).run Tryz.prog w1 = .ok (.int .i64 0) w1 := fun w1 ty => Maps.len_nil Tryz.underlying46 ty
  clear G Z
  go_enter Tryz.func39, Tryz.ntmps39
  go_wp2_with (at_make; refine wpList_make_own _ rfl _ _ 22 rfl w.heap.size 9 j0 (.string ⟨#[]⟩) 1 Tryz.underlying22 hj0 hjz0 hjz1 _ _ _ 0 rfl rfl rfl (by omega) (Nat.zero_le _) (Nat.le_refl _) ?_; intro w1 hrow1 hg1
               have E1 : Ext w w1 := (Upd.refl none' w).grown hg1 (fun k hk => by cases hk)
               have m0 : w1.cell? ⟨b, 0, none⟩ = some (.map none) := cell_of_blk (Ext.blk E1 HZ.out) 0
               have hrg := run_range_nilMap (P := Tryz.prog) w1 46 9 9 Tryz.underlying46
               have hnx : ∀ ty, (Instr.next (.pointer (some ⟨w1.heap.size, 0, none⟩)) false ty).run Tryz.prog (w1.alloc (.mapIter none 0 #[] 0)) = _ := fun ty => run_next_nilMap _ ty 0 0 #[])
  refine wp_loop_rounds 1 ?_
  rw [rounds_succ]
  have E2 := (Upd.refl none' w1).alloc (.mapIter none 0 #[] 0)
  have hrow2 := rows_upd hrow1 E2 (fun _ _ => id)
  have CS := sort_any (ss := []) hrow2 (by decide)
  simp only [List.length_nil, List.mergeSort_nil, List.map_nil] at CS
  have HE := Lib.hid (E1.trans E2)
  have HR := Lib.hid hrow2
  clear hrow1 hrow2 hg1 E1 E2
  go_wp2_with (refine CS.mono ?_; rintro e w' ⟨rfl, ho, hg⟩)
  go_ret
  exact ⟨⟨_, _, rfl⟩, HE.out.grown hg (fun k hk => by cases hk; exact .inl ((HR.out.lt _ rfl).1))⟩
end Go.Proofs.YtnkcfkjeeennmaaGreatDoor
