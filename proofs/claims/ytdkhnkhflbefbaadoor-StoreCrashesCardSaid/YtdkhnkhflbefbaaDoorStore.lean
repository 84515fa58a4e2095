/- The store by contracts: what lies in memory; may, take, New. -/
import Derived.Test.YtdkhnkhflbefbaaDoorStMap
import Derived.Test.YtdkhnkhflbefbaaDoorCode
import Derived.Test.YtdkhnkhflbefbaaDoorAgg
import Derived.Laws.CopyOwn
import Derived.Laws.ResultCell
import Derived.OwnWalk
import Derived.Laws.Cover3
namespace Go.Proofs.YtdkhnkhflbefbaaDoor
open Go.RowKit Go.Lib

/-- Numbers in memory that came in or that a call made. -/
def RdsAt (w : World) (a : Option Addr) (zs : List Int) : Prop := ∀ (i : Nat) (x : Int), zs[i]? = some x → ∃ g off, a = some ⟨g, off, none⟩ ∧ w.cell? ⟨g, off + i, none⟩ = some (.int .i64 x)
theorem RdsAt.ext {w w' : World} {a : Option Addr} {zs : List Int} (h : RdsAt w a zs) (u : Ext w w') : RdsAt w' a zs := fun i x hx => by
  obtain ⟨g, off, e, hc⟩ := h i x hx
  exact ⟨g, off, e, u.cellv hc⟩
theorem RdsAt.nil (w : World) (a : Option Addr) : RdsAt w a [] := fun i x hx => by cases hx
def mayFrom : Int → List Int → Bool
  | _, [] => true
  | l, n :: r => if n ≤ l then false else mayFrom n r
/-- May these reads fail? -/
def mayR (zs : List Int) : Bool := mayFrom 0 zs
structure StD where
  texts : TxtL
  rs : List Int
  crash : Int
  nr : Nat
  nw : Nat
  dead : Bool
abbrev stRow (m tv : Value) (x : StD) : Array Value := #[m, tv, .int .i64 x.crash, .int .i64 (x.nr : Int), .int .i64 (x.nw : Int), .bool x.dead]
/-- The store at block b, its texts at block mb, its trouble's reads behind tv. -/
structure StAt (w : World) (b mb : Nat) (tv : Value) (x : StD) : Prop where
  blk : w.heap[b]? = some (.cells (stRow (.map (some mb)) tv x) 30 (0, 0))
  tex : MapAt w mb x.texts
  row : w.ownsRow 0 3 1 tv x.rs.length (x.rs.map (Value.int .i64))
  rise : mayR x.rs = true
theorem StAt.ne {w : World} {b mb : Nat} {tv : Value} {x : StD} (h : StAt w b mb tv x) : b ≠ mb := fun e => by
  obtain ⟨es, c, hb⟩ := h.tex.blk
  rw [← e, h.blk] at hb; cases hb
theorem StAt.tvb {w : World} {b mb : Nat} {tv : Value} {x : StD} (h : StAt w b mb tv x) : tv.ownBlock ≠ some b := fun e => by
  have hr := h.row
  rcases hr.2 with ⟨hv, _⟩ | ⟨g, cap, cur, hv, _, hg, _⟩
  · rw [hv] at e; cases e
  · rw [hv] at e
    obtain rfl : g = b := by simpa [Value.ownBlock] using e
    rw [h.blk] at hg
    simp only [Option.some.injEq, Obj.cells.injEq] at hg
    exact absurd hg.2.1 (by decide)
theorem StAt.tvm {w : World} {b mb : Nat} {tv : Value} {x : StD} (h : StAt w b mb tv x) : tv.ownBlock ≠ some mb := fun e => by
  have hr := h.row
  obtain ⟨es, c, hb⟩ := h.tex.blk
  rcases hr.2 with ⟨hv, _⟩ | ⟨g, cap, cur, hv, _, hg, _⟩
  · rw [hv] at e; cases e
  · rw [hv] at e
    obtain rfl : g = mb := by simpa [Value.ownBlock] using e
    rw [hb] at hg; cases hg
theorem rows_upd {w w' : World} {B e size n : Nat} {v : Value} {xs : List Value} {S : Nat → Prop} (h : w.ownsRow B e size v n xs) (u : Upd S w w') (hS : ∀ g, v.ownBlock = some g → ¬ S g) : w'.ownsRow B e size v n xs := by
  refine ⟨h.1, ?_⟩
  rcases h.2 with h0 | ⟨g, cap, cur, hv, hb, hg, h1, h2, h3, h4⟩
  · exact .inl h0
  · exact .inr ⟨g, cap, cur, hv, hb, u.blk hg (hS g (by rw [hv]; rfl)), h1, h2, h3, h4⟩
theorem StAt.upd {w w' : World} {b mb : Nat} {tv : Value} {x : StD} {S : Nat → Prop} (h : StAt w b mb tv x) (u : Upd S w w') (hb : ¬ S b) (hm : ¬ S mb) (ht : ∀ g, tv.ownBlock = some g → ¬ S g) : StAt w' b mb tv x :=
  ⟨u.blk h.blk hb, h.tex.upd u hm, rows_upd h.row u ht, h.rise⟩
theorem StAt.ext {w w' : World} {b mb : Nat} {tv : Value} {x : StD} (h : StAt w b mb tv x) (u : Ext w w') : StAt w' b mb tv x := h.upd u id id (fun _ _ => id)

theorem cell_int_at {w : World} {a : Option Addr} {zs : List Int} (h : RdsAt w a zs) (k : Nat) (hk : k < zs.length) : ∃ g off, a = some ⟨g, off, none⟩ ∧ w.cell? ⟨g, off + k, none⟩ = some (.int .i64 zs[k]) := h k _ (List.getElem?_eq_getElem hk)
theorem mayFrom_drop (l : Int) (zs : List Int) (k : Nat) (hk : k < zs.length) : mayFrom l (zs.drop k) = if zs[k] ≤ l then false else mayFrom zs[k] (zs.drop (k + 1)) := by
  rw [List.drop_eq_getElem_cons hk]; rfl
set_option maxRecDepth 8000 in
set_option maxHeartbeats 2000000 in
theorem may_any (a : Option Addr) (zs : List Int) (cap : Nat) (c : Int) (w : World) (h : RdsAt w a zs) (hz : zs.length ≤ 4611686018427387904) :
    Calls Tryd.prog 21 #[.agg #[.slice a zs.length cap, .int .i64 c]] w fun e w' => e = .returned (.bool (mayR zs)) ∧ Ext w w' := by
  have X := (Upd.refl none' w).alloc (.cells #[.slice a zs.length cap, .int .i64 c] 24)
  have hb := blk_alloc w (.cells #[.slice a zs.length cap, .int .i64 c] 24)
  have c0 := cell_of_blk hb 0
  simp only [List.size_toArray, List.getElem?_toArray, List.getElem?_cons_zero, List.getElem?_cons_succ] at c0
  have HX := Lib.hid X
  have HR := Lib.hid (h.ext X)
  have HM := Lib.hid (show mayFrom 0 (zs.drop 0) = mayR zs from rfl)
  have HZ := Lib.hid hz
  generalize hr : mayR zs = r at *
  clear h X hb hz hr
  go_enter Tryd.func21, Tryd.ntmps21
  go_wp2_with fail
  generalize hW : w.alloc (.cells #[.slice a zs.length cap, .int .i64 c] 24) = W at *
  go_loopw [3, 9] (fun lv kv wr => ∃ (k : Nat) (l : Int), lv = .int .i64 l ∧ kv = .int .i64 k ∧ k ≤ zs.length ∧ mayFrom l (zs.drop k) = r ∧ wr = W) (fun _ kv _ => zs.length - (RowKit.intOf kv).toNat)
  case atStart => exact ⟨0, 0, rfl, rfl, Nat.zero_le _, HM.out, rfl⟩
  case round =>
    obtain ⟨k, l, rfl, rfl, hk, hm, rfl⟩ := hrel
    by_cases hlt : k < zs.length
    · have hki : (k : Int) < zs.length := by omega
      obtain ⟨g, off, rfl, hc⟩ := cell_int_at HR.out k hlt
      have HKM := Lib.hid ((mayFrom_drop l zs k hlt).symm.trans hm)
      have hkz := HZ.out
      generalize hx : zs[k] = x at *
      clear hm hx
      by_cases hle : x ≤ l
      · have HRF := Lib.hid (show r = false from by have := HKM.out; rw [if_pos hle] at this; exact this.symm)
        go_wp2_with fail
        go_ret
        exact ⟨by rw [HRF.out]; rfl, HX.out⟩
      · have HRF := Lib.hid (show mayFrom x (zs.drop (k + 1)) = r from by have := HKM.out; rw [if_neg hle] at this; exact this)
        go_wp2_with fail
        exact ⟨⟨k + 1, x, rfl, by simp, by omega, HRF.out, trivial⟩, by simp [RowKit.intOf]; omega⟩
    · obtain rfl : k = zs.length := by omega
      have HRF := Lib.hid (show r = true from by rw [List.drop_length] at hm; exact hm.symm)
      clear hm
      have hki : ¬ (zs.length : Int) < zs.length := by omega
      go_wp2_with fail
      go_ret
      exact ⟨by rw [HRF.out]; rfl, HX.out⟩

theorem map_eq_nil {P : Program} {t k e : TypeId} (m : Option Nat) (h : P.underlying t = some (.map k e)) (w : World) : (binOp .eql t (.map m) (.map none)).run P w = .ok (.bool m.isNone) w := by
  simp only [binOp]
  simp [run_equal_map_nil w t k e m h]
theorem map_has (mb : Nat) (w : World) : (binOp .eql 28 (.map (some mb)) (.map none)).run Tryd.prog w = .ok (.bool false) w := map_eq_nil (some mb) Tryd.underlying28 w
theorem map_hasnt (w : World) : (binOp .eql 28 (.map none) (.map none)).run Tryd.prog w = .ok (.bool true) w := map_eq_nil none Tryd.underlying28 w
theorem info_int : (Tryd.prog.info? 3).map (fun i => (i.zero, i.size, i.bytes)) = some (some (.int .i64 0), 1, 8) := by kernel_rfl
theorem int_size : (Tryd.prog.info? 3).map (·.size) = some 1 := by kernel_rfl
theorem own_full {w : World} {e : TypeId} {g n : Nat} {xs : List Value} (h : w.ownsRow 0 e 1 (.slice (some ⟨g, 0, none⟩) n n) n xs) : w.heap[g]? = some (.cells xs.toArray e (0, 0)) ∧ xs.length = n := by
  have h1 := h.1
  rcases h.2 with ⟨hv, _⟩ | ⟨g', cap, cur, hv, _, hg, _, _, hs, ht⟩
  · cases hv
  · simp only [Value.slice.injEq, Option.some.injEq, Addr.mk.injEq, true_and, and_true] at hv
    obtain ⟨rfl, rfl⟩ := hv
    refine ⟨?_, by omega⟩
    rw [hg, ← ht]
    have : cur.toList.take (n * 1) = cur.toList := List.take_of_length_le (by rw [Array.length_toList]; omega)
    rw [this]
theorem splice_full {α : Type} (L cs : List α) (h : cs.length = L.length) : splice L 0 cs = cs := by
  unfold splice
  rw [List.take_zero, List.nil_append, List.drop_of_length_le (by omega), List.append_nil]
theorem row_of_full {w : World} {g : Nat} {e : TypeId} {xs : List Value} (hg : w.heap[g]? = some (.cells xs.toArray e (0, 0))) (hx : xs.length ≤ maxLen) : w.ownsRow 0 e 1 (.slice (some ⟨g, 0, none⟩) xs.length xs.length) xs.length xs :=
  ⟨by omega, .inr ⟨g, xs.length, xs.toArray, rfl, Nat.zero_le _, hg, Nat.le_refl _, hx, by simp, by simp⟩⟩
theorem ints_one (zs : List Int) : ∀ v ∈ zs.map (Value.int .i64), v.oneCell' = true := fun v hv => by
  obtain ⟨x, _, rfl⟩ := List.mem_map.1 hv; rfl
set_option maxRecDepth 8000 in
set_option maxHeartbeats 4000000 in
theorem take_any {b : Nat} {m tv : Value} {x : StD} {w : World} (a : Option Addr) (zs : List Int) (cap : Nat) (c : Int) (hb : w.heap[b]? = some (.cells (stRow m tv x) 30 (0, 0))) (h : RdsAt w a zs) (hz : zs.length ≤ 35184372088832) :
    Calls Tryd.prog 22 #[.pointer (some ⟨b, 0, none⟩), .agg #[.slice a zs.length cap, .int .i64 c]] w fun e w' => e = .returned (.tuple #[]) ∧
      ∃ tv', w'.heap[b]? = some (.cells (stRow m tv' { x with rs := zs, crash := c, nr := 0, nw := 0, dead := false }) 30 (0, 0)) ∧ w'.ownsRow 0 3 1 tv' zs.length (zs.map (Value.int .i64)) ∧ (∀ g, tv'.ownBlock = some g → w.heap.size ≤ g) ∧ Upd (one b) w w' := by
  obtain ⟨i0, hi0, hz0, hz1, hz2⟩ := info_parts info_int
  have X := (Upd.refl none' w).alloc (.cells #[.slice a zs.length cap, .int .i64 c] 24)
  have hbx := blk_alloc w (.cells #[.slice a zs.length cap, .int .i64 c] 24)
  have t0 := cell_of_blk hbx 0
  simp only [List.size_toArray, List.getElem?_toArray, List.getElem?_cons_zero, List.getElem?_cons_succ] at t0
  have HX := Lib.hid X
  have HB := Lib.hid (Ext.blk X hb)
  have HBX := Lib.hid hbx
  have HR := Lib.hid (h.ext X)
  have HZ := Lib.hid (show i0.bytes * zs.length ≤ 281474976710656 ∧ zs.length ≤ maxLen by rw [hz2]; unfold maxLen; omega)
  have HLT := Lib.hid (lt_of_blk hb)
  clear X hbx hb h hz
  go_enter Tryd.func22, Tryd.ntmps22
  go_wp2_with (at_make; refine wpList_make_full _ rfl _ _ 22 rfl 0 3 i0 (.int .i64 0) 1 Tryd.underlying22 hi0 hz0 hz1 .i64 .i64 _ _ zs.length rfl rfl rfl rfl HZ.out.1 HZ.out.2 (Nat.zero_le _) ?_)
  intro w2 hown hg
  generalize hW : w.alloc (.cells #[.slice a zs.length cap, .int .i64 c] 24) = W at *
  have X2 := HX.out.grown hg (fun k hk => by cases hk)
  have E2 : Ext W w2 := (Upd.refl none' W).grown hg (fun k hk => by cases hk)
  have HB2 := Lib.hid (Ext.blk E2 HB.out)
  have hbx := Ext.blk E2 HBX.out
  have t0 := cell_of_blk hbx 0
  have t1 := cell_of_blk hbx 1
  simp only [List.size_toArray, List.getElem?_toArray, List.getElem?_cons_zero, List.getElem?_cons_succ] at t0 t1
  obtain ⟨hrow, hlen⟩ := own_full hown
  have HROW := Lib.hid hrow
  have HLEN := Lib.hid hlen
  have HR2 := Lib.hid (HR.out.ext E2)
  have HX2 := Lib.hid X2
  have HBX2 := Lib.hid hbx
  have HG2 := Lib.hid (lt_of_blk hrow)
  clear hown hg X2 E2 hbx hrow hlen hi0 hz0 hz1 hz2 HB HBX HR HX
  generalize (madeCells #[Value.int IntKind.i64 0] zs.length).toList = cur at *
  generalize hgW : w.heap.size + 1 = gW at *
  have HSZ : Hid (gW = w.heap.size + 1) := Lib.hid hgW.symm
  clear hgW
  have HPOS : Hid (0 < (zs.map (Value.int .i64)).length → (some ⟨gW, 0, none⟩ : Option Addr) = some ⟨gW, 0, none⟩ ∧ ∃ ad, a = some ad ∧ ∀ (j : Nat) (v : Value), (zs.map (Value.int .i64))[j]? = some v → w2.cell? (ad.add j) = some v) := Lib.hid (fun hp => ⟨rfl, by
      rw [List.length_map] at hp
      obtain ⟨g, off, e, _⟩ := cell_int_at HR2.out 0 hp
      refine ⟨_, e, fun j v hv => ?_⟩
      have hj : j < zs.length := by have := (List.getElem?_eq_some_iff.1 hv).1; rwa [List.length_map] at this
      obtain ⟨g', off', e', hc⟩ := cell_int_at HR2.out j hj
      rw [e] at e'
      simp only [Option.some.injEq, Addr.mk.injEq, and_true] at e'
      obtain ⟨rfl, rfl⟩ := e'
      have ea : (⟨g, off, none⟩ : Addr).add j = ⟨g, off + j, none⟩ := by unfold Addr.add; split <;> simp_all
      rw [ea, hc]
      rw [List.getElem?_map, List.getElem?_eq_getElem hj] at hv
      exact hv⟩)
  go_wp2_with (with_reducible refine wpList_copy_splice rfl _ _ _ _ rfl 3 Tryd.underlying22 int_size (some ⟨gW, 0, none⟩) a zs.length zs.length zs.length cap rfl rfl gW 0 cur 3 HROW.out (zs.map (Value.int .i64)) (by rw [List.length_map]; exact (Nat.min_self _).symm) HPOS.out (by rw [List.length_map, HLEN.out]; omega) (ints_one zs) gW w2 (RowKit.Below.refl _ _) (Nat.le_refl _) ?_)
  intro w3 hrow3 hbel
  have e3 := hrow3
  change w3.heap[gW]? = _ at e3
  rw [splice_full cur _ (by rw [List.length_map, HLEN.out])] at e3
  have HROW3 := Lib.hid e3
  have U3 : Upd (fun k => gW ≤ k) w2 w3 := Upd.of_below hbel (fun k _ hk => hk)
  have HBW : Hid (b < gW) := Lib.hid (by have := HLT.out; have := HSZ.out; omega)
  have hb3 := U3.blk HB2.out (fun e => by have := HBW.out; omega)
  have hbx := U3.blk HBX2.out (fun e => by have := HSZ.out; omega)
  have t0 := cell_of_blk hbx 0
  have t1 := cell_of_blk hbx 1
  have c1 := cell_of_blk hb3 1
  have c2 := cell_of_blk hb3 2
  have c3 := cell_of_blk hb3 3
  have c4 := cell_of_blk hb3 4
  have c5 := cell_of_blk hb3 5
  have f1 := free_of_blk hb3 1
  have f2 := free_of_blk hb3 2
  have f3 := free_of_blk hb3 3
  have f4 := free_of_blk hb3 4
  have f5 := free_of_blk hb3 5
  simp only [List.size_toArray, List.getElem?_toArray, List.getElem?_cons_zero, List.getElem?_cons_succ] at t0 t1 c1 c2 c3 c4 c5
  have HB3 := Lib.hid hb3
  have HX3 := Lib.hid (HX2.out.then U3 (fun k hk hg => by have := HSZ.out; omega : ∀ k, k < w.heap.size → gW ≤ k → none' k))
  clear hrow3 hbel e3 U3 hb3 hbx
  go_wp2_with fail
  go_end0
  have b1 := blk_set (blk_set (blk_set (blk_set (blk_set HB3.out 1 (.slice (some ⟨gW, 0, none⟩) zs.length zs.length)) 2 (.int .i64 c)) 3 (.int .i64 0)) 4 (.int .i64 0)) 5 (.bool false)
  have o3 := row_of_full HROW3.out (by rw [List.length_map]; exact HZ.out.2)
  rw [List.length_map] at o3
  have U := fun k : Nat => k
  refine ⟨rfl, .slice (some ⟨gW, 0, none⟩) zs.length zs.length, b1, rows_upd o3 ((((((Upd.refl (one b) w3).setCell (p := ⟨b, 1, none⟩) (.inr rfl) _).setCell (p := ⟨b, 2, none⟩) (.inr rfl) _).setCell (p := ⟨b, 3, none⟩) (.inr rfl) _).setCell (p := ⟨b, 4, none⟩) (.inr rfl) _).setCell (p := ⟨b, 5, none⟩) (.inr rfl) _) (fun g hg e => by
    have : gW = g := by simpa [Value.ownBlock] using hg
    have e2 : g = b := e
    have := HBW.out; omega), fun g hg => by
    have : gW = g := by simpa [Value.ownBlock] using hg
    have := HSZ.out; omega, ?_⟩
  exact (((((Upd.ext HX3.out (one b)).setCell (p := ⟨b, 1, none⟩) (.inr rfl) _).setCell (p := ⟨b, 2, none⟩) (.inr rfl) _).setCell (p := ⟨b, 3, none⟩) (.inr rfl) _).setCell (p := ⟨b, 4, none⟩) (.inr rfl) _).setCell (p := ⟨b, 5, none⟩) (.inr rfl) _
end Go.Proofs.YtdkhnkhflbefbaaDoor
