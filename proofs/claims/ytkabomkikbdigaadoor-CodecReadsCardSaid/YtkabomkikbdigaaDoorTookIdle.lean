/- took of a reader that is not there, or that nobody made (printed out of took's text by gen_meant.py). -/
import Derived.Test.YtkabomkikbdigaaDoorTook2
import Derived.Test.YtkabomkikbdigaaDoorReader9
import Derived.Test.YtkabomkikbdigaaDoorRdPlain
namespace Go.Proofs.YtkabomkikbdigaaDoor
open Go.RowKit Go.Lib

/-- What such a read answers. -/
def idleT (t : ThingD) : ThingD := bare (t.kind % 4) (if t.kind % 4 = 0 then t.wd else 0)
/-- What is known behind the read: the reader, the three variables. -/
structure IdleAt (w w' : World) (p : Value) (t y : ThingD) : Prop where
  r : IdleR p w'
  u : Ext w w'
  b0 : w'.heap[w.heap.size]? = some (.cells (thingCells t).toArray 36 (0, 0))
  b1 : w'.heap[w.heap.size + 1]? = some (.cells (thingCells (zeroT 0)).toArray 36 (0, 0))
  b2 : w'.heap[w.heap.size + 2]? = some (.cells (thingCells y).toArray 36 (0, 0))
  hb : ∀ b, p = .pointer (some ⟨b, 0, none⟩) → b < w.heap.size
theorem IdleR.lt {p : Value} {w : World} (h : IdleR p w) : ∀ b, p = .pointer (some ⟨b, 0, none⟩) → b < w.heap.size := fun b e => by
  rcases h with rfl | ⟨b', rfl, h⟩
  · cases e
  · cases e; exact lt_of_cell h
theorem IdleAt.of {w w' : World} {p : Value} {t : ThingD} {k : Int} (h : IdleR p w) (hu : Ext (tookW w t k) w') : IdleAt w w' p t (zeroT k) := by
  obtain ⟨a0, a1, a2⟩ := tookW_blk w t k
  have X := (tookW_ext w t k).thenExt hu
  exact ⟨h.ext X, X, Ext.blk hu a0, Ext.blk hu a1, Ext.blk hu a2, h.lt⟩
theorem IdleAt.set {w w' : World} {p : Value} {t y z : ThingD} (h : IdleAt w w' p t y) (i : Nat) (v : Value) (hz : (thingCells y).toArray.setIfInBounds i v = (thingCells z).toArray) : IdleAt w (w'.setCell ⟨w.heap.size + 2, i, none⟩ v) p t z := by
  have k1 : Upd (one (w.heap.size + 2)) w' (w'.setCell ⟨w.heap.size + 2, i, none⟩ v) := Upd.setCell (p := ⟨w.heap.size + 2, i, none⟩) (Upd.refl (one (w.heap.size + 2)) w') (.inr (show one (w.heap.size + 2) (w.heap.size + 2) from rfl)) v
  exact ⟨h.r.upd k1 (fun b e0 e => by have e' : b = w.heap.size + 2 := e; have := h.hb b e0; omega), h.u.setCell (.inl (by show w.heap.size ≤ w.heap.size + 2; omega)) v, blk_set_ne h.b0 (by show w.heap.size ≠ w.heap.size + 2; omega) v, blk_set_ne h.b1 (by show w.heap.size + 1 ≠ w.heap.size + 2; omega) v, by rw [← hz]; exact blk_set h.b2 i v, h.hb⟩
theorem IdleAt.row {w w' : World} {p : Value} {t y z : ThingD} (h : IdleAt w w' p t y) (cs : Array Value) (hz : cs = (thingCells z).toArray) : IdleAt w (w'.setRow (w.heap.size + 2) cs) p t z := by
  have k1 : Upd (one (w.heap.size + 2)) w' (w'.setRow (w.heap.size + 2) cs) := (Upd.refl (one (w.heap.size + 2)) w').setRow (.inr (show one _ _ from rfl)) cs
  exact ⟨h.r.upd k1 (fun b e0 e => by have e' : b = w.heap.size + 2 := e; have := h.hb b e0; omega), h.u.setRow (.inl (by omega)) cs, blk_setRow_ne h.b0 (by omega) cs, blk_setRow_ne h.b1 (by omega) cs, by rw [← hz]; exact blk_setRow h.b2 cs, h.hb⟩
theorem IdleAt.out {w w' : World} {p : Value} {t y : ThingD} (h : IdleAt w w' p t y) (cs : Array Value) : IdleR p (w'.setRow (w.heap.size + 1) cs) ∧ Ext w (w'.setRow (w.heap.size + 1) cs) := by
  have k1 : Upd (one (w.heap.size + 1)) w' (w'.setRow (w.heap.size + 1) cs) := (Upd.refl (one (w.heap.size + 1)) w').setRow (.inr (show one _ _ from rfl)) cs
  exact ⟨h.r.upd k1 (fun b e0 e => by have e' : b = w.heap.size + 1 := e; have := h.hb b e0; omega), h.u.setRow (.inl (by omega)) cs⟩
set_option maxRecDepth 8000 in
set_option maxHeartbeats 1000000 in
theorem tookIdle_0 {B : Nat} {se : Nat → Addr} {w : World} {a : Option Addr} (G : Genv B se w) (h : IdleR (.pointer a) w) (t : ThingD) (ht : t.Ok) (hk : t.kind % 4 = 0) :
    Calls Tryd.prog 31 #[.pointer a, .agg (thingCells t).toArray] w fun e w' => e = .returned (.agg (thingCells (idleT t)).toArray) ∧ IdleR (.pointer a) w' ∧ Ext w w' := by
  have E : idleT t = ({ zeroT 0 with n := 0, wd := t.wd } : ThingD) := by unfold idleT; rw [hk, if_pos rfl]; rfl
  rw [E]
  have R := round_any t.kind (tookA w t) ht.kind1 ht.kind2
  rw [hk] at R
  have c1 := tookA_c1 w t
  have c3 := tookW_c w t 0
  have C : Calls Tryd.prog 35 #[.pointer a, .int .i64 t.wd] (tookW w t 0) fun e w' => e = .returned (.int .u64 0) ∧ IdleAt w w' (.pointer a) t (zeroT 0) :=
    (fixed_idle (h.ext (tookW_ext w t 0)) (G.ext (tookW_ext w t 0)) t.wd).mono (by rintro e w' ⟨rfl, rfl⟩; exact ⟨rfl, IdleAt.of h (Upd.refl _ _)⟩)
  have HC := Lib.hid C
  have HB := Lib.hid (tookB_blk w t)
  have HSZ := Lib.hid (thing_size' (zeroT 0) rfl)
  have HF := Lib.hid (show 0 + (thingCells (zeroT 0)).length ≤ (thingCells (zeroT 0)).length by rw [thingCells_len _ rfl]; decide)
  have H1 := Lib.hid (one_cells (zeroT 0))
  have hsz : (thingCells t).toArray.size = 37 := by rw [List.size_toArray]; exact thingCells_len t ht.h
  clear G h E hk ht C
  go_enter Tryd.func31, Tryd.ntmps31
  go_wp2_with fail
  refine R.mono ?_
  rintro e w1 ⟨rfl, rfl⟩
  clear R
  go_wp2_with (refine wpList_storeAgg rfl 36 _ _ rfl (w.heap.size + 1 + 1) 0 rfl (thingCells (zeroT 0)) rfl HSZ.out (thingCells (zeroT 0)) 36 HB.out HF.out H1.out ?_)
  rw [over_thing _ _ rfl rfl]
  refine HC.out.mono ?_
  rintro e w2 ⟨rfl, T⟩
  clear c1 c3 HC HB HSZ HF H1
  have y2 : (thingCells (zeroT 0)).toArray.setIfInBounds 2 (.int .u64 0) = (thingCells { zeroT 0 with n := 0 }).toArray := rfl
  have y3 : (thingCells { zeroT 0 with n := 0 }).toArray.setIfInBounds 3 (.int .i64 t.wd) = (thingCells { zeroT 0 with n := 0, wd := t.wd }).toArray := rfl
  have T2 := (T.set 2 _ y2).set 3 _ y3
  have c3 := cell_of_blk T.b0 3
  have k2 : w2.cell? ⟨w.heap.size + 1 + 1, 2, none⟩ = some (.int .u64 0) := cell_of_blk T.b2 2
  have k3 : w2.cell? ⟨w.heap.size + 1 + 1, 3, none⟩ = some (.int .i64 0) := cell_of_blk T.b2 3
  have f2 : w2.frozen? ⟨w.heap.size + 1 + 1, 2, none⟩ = false := free_of_blk T.b2 2
  have f3 : w2.frozen? ⟨w.heap.size + 1 + 1, 3, none⟩ = false := free_of_blk T.b2 3
  have d3 : w2.cell? ⟨w.heap.size, 3, none⟩ = some (.int .i64 t.wd) := c3
  clear c3 T
  generalize hy : ({ zeroT 0 with n := 0, wd := t.wd } : ThingD) = yy at T2 ⊢
  have HYL : yy.h.length = 32 := by rw [← hy]; rfl
  have HYE := Lib.hid hy
  clear hy y2 y3
  have HT := Lib.hid T2
  have HO := Lib.hid T2.out
  have HL := Lib.hid (fun (j : Nat) (v : Value) (hv : (thingCells yy)[j]? = some v) => show World.cell? _ ⟨w.heap.size + 1 + 1, 0 + j, none⟩ = some v from by rw [cell_of_blk T2.b2]; simpa using hv)
  have HSZ := Lib.hid (thing_size' yy HYL)
  have HF := Lib.hid (show 0 + (thingCells yy).length ≤ (thingCells (zeroT 0)).length by rw [thingCells_len _ HYL, thingCells_len _ rfl]; decide)
  have H1 := Lib.hid (one_cells yy)
  have HOV := Lib.hid (over_thing (zeroT 0) yy rfl HYL)
  have HZ := Lib.hid (fun cs => blk_setRow T2.b1 cs)
  have HYS := Lib.hid HYL
  clear T2 HYL
  go_wp2_with (first
    | (refine wpList_loadAgg rfl 36 _ rfl (w.heap.size + 1 + 1) 0 rfl (thingCells yy) Tryd.underlying36 rfl HSZ.out HL.out ?_)
    | (refine wpList_storeAgg rfl 36 _ _ rfl (w.heap.size + 1) 0 rfl (thingCells yy) rfl HSZ.out (thingCells (zeroT 0)) 36 HT.out.b1 HF.out H1.out ?_))
  rw [HOV.out]
  refine bodyPost_ret (v := .agg (thingCells yy).toArray) (results_cell_row rfl _ _ (w.heap.size + 1) 36 (thingCells yy).toArray (0, 0) _ rfl (HZ.out _) Tryd.underlying36 rfl (by have := HSZ.out; simpa using this)) rfl ⟨congrArg (fun z => Ending.returned (.agg (thingCells z).toArray)) HYE.out.symm, HO.out _⟩
set_option maxRecDepth 8000 in
set_option maxHeartbeats 1000000 in
theorem tookIdle_1 {B : Nat} {se : Nat → Addr} {w : World} {a : Option Addr} (G : Genv B se w) (h : IdleR (.pointer a) w) (t : ThingD) (ht : t.Ok) (hk : t.kind % 4 = 1) :
    Calls Tryd.prog 31 #[.pointer a, .agg (thingCells t).toArray] w fun e w' => e = .returned (.agg (thingCells (idleT t)).toArray) ∧ IdleR (.pointer a) w' ∧ Ext w w' := by
  have E : idleT t = ({ zeroT 1 with n := 0 } : ThingD) := by unfold idleT; rw [hk, if_neg (by decide)]; rfl
  rw [E]
  have R := round_any t.kind (tookA w t) ht.kind1 ht.kind2
  rw [hk] at R
  have c1 := tookA_c1 w t
  have c3 := tookW_c w t 1
  have C : Calls Tryd.prog 24 #[.pointer a] (tookW w t 1) fun e w' => e = .returned (.int .u64 0) ∧ IdleAt w w' (.pointer a) t (zeroT 1) :=
    (var_idle (h.ext (tookW_ext w t 1))).mono (by rintro e w' ⟨rfl, rfl⟩; exact ⟨rfl, IdleAt.of h (Upd.refl _ _)⟩)
  have HC := Lib.hid C
  have HB := Lib.hid (tookB_blk w t)
  have HSZ := Lib.hid (thing_size' (zeroT 1) rfl)
  have HF := Lib.hid (show 0 + (thingCells (zeroT 1)).length ≤ (thingCells (zeroT 0)).length by rw [thingCells_len _ rfl, thingCells_len _ rfl]; decide)
  have H1 := Lib.hid (one_cells (zeroT 1))
  have hsz : (thingCells t).toArray.size = 37 := by rw [List.size_toArray]; exact thingCells_len t ht.h
  clear G h E hk ht C
  go_enter Tryd.func31, Tryd.ntmps31
  go_wp2_with fail
  refine R.mono ?_
  rintro e w1 ⟨rfl, rfl⟩
  clear R
  go_wp2_with (refine wpList_storeAgg rfl 36 _ _ rfl (w.heap.size + 1 + 1) 0 rfl (thingCells (zeroT 1)) rfl HSZ.out (thingCells (zeroT 0)) 36 HB.out HF.out H1.out ?_)
  rw [over_thing _ _ rfl rfl]
  refine HC.out.mono ?_
  rintro e w2 ⟨rfl, T⟩
  clear c1 c3 HC HB HSZ HF H1
  have y2 : (thingCells (zeroT 1)).toArray.setIfInBounds 2 (.int .u64 0) = (thingCells { zeroT 1 with n := 0 }).toArray := rfl
  have T2 := T.set 2 _ y2
  have c3 := cell_of_blk T.b0 3
  have k2 : w2.cell? ⟨w.heap.size + 1 + 1, 2, none⟩ = some (.int .u64 0) := cell_of_blk T.b2 2
  have k3 : w2.cell? ⟨w.heap.size + 1 + 1, 3, none⟩ = some (.int .i64 0) := cell_of_blk T.b2 3
  have f2 : w2.frozen? ⟨w.heap.size + 1 + 1, 2, none⟩ = false := free_of_blk T.b2 2
  have f3 : w2.frozen? ⟨w.heap.size + 1 + 1, 3, none⟩ = false := free_of_blk T.b2 3
  have d3 : w2.cell? ⟨w.heap.size, 3, none⟩ = some (.int .i64 t.wd) := c3
  clear c3 T
  generalize hy : ({ zeroT 1 with n := 0 } : ThingD) = yy at T2 ⊢
  have HYL : yy.h.length = 32 := by rw [← hy]; rfl
  have HYE := Lib.hid hy
  clear hy y2
  have HT := Lib.hid T2
  have HO := Lib.hid T2.out
  have HL := Lib.hid (fun (j : Nat) (v : Value) (hv : (thingCells yy)[j]? = some v) => show World.cell? _ ⟨w.heap.size + 1 + 1, 0 + j, none⟩ = some v from by rw [cell_of_blk T2.b2]; simpa using hv)
  have HSZ := Lib.hid (thing_size' yy HYL)
  have HF := Lib.hid (show 0 + (thingCells yy).length ≤ (thingCells (zeroT 0)).length by rw [thingCells_len _ HYL, thingCells_len _ rfl]; decide)
  have H1 := Lib.hid (one_cells yy)
  have HOV := Lib.hid (over_thing (zeroT 0) yy rfl HYL)
  have HZ := Lib.hid (fun cs => blk_setRow T2.b1 cs)
  have HYS := Lib.hid HYL
  clear T2 HYL
  go_wp2_with (first
    | (refine wpList_loadAgg rfl 36 _ rfl (w.heap.size + 1 + 1) 0 rfl (thingCells yy) Tryd.underlying36 rfl HSZ.out HL.out ?_)
    | (refine wpList_storeAgg rfl 36 _ _ rfl (w.heap.size + 1) 0 rfl (thingCells yy) rfl HSZ.out (thingCells (zeroT 0)) 36 HT.out.b1 HF.out H1.out ?_))
  rw [HOV.out]
  refine bodyPost_ret (v := .agg (thingCells yy).toArray) (results_cell_row rfl _ _ (w.heap.size + 1) 36 (thingCells yy).toArray (0, 0) _ rfl (HZ.out _) Tryd.underlying36 rfl (by have := HSZ.out; simpa using this)) rfl ⟨congrArg (fun z => Ending.returned (.agg (thingCells z).toArray)) HYE.out.symm, HO.out _⟩
set_option maxRecDepth 8000 in
set_option maxHeartbeats 1000000 in
theorem tookIdle_2 {B : Nat} {se : Nat → Addr} {w : World} {a : Option Addr} (G : Genv B se w) (h : IdleR (.pointer a) w) (t : ThingD) (ht : t.Ok) (hk : t.kind % 4 = 2) :
    Calls Tryd.prog 31 #[.pointer a, .agg (thingCells t).toArray] w fun e w' => e = .returned (.agg (thingCells (idleT t)).toArray) ∧ IdleR (.pointer a) w' ∧ Ext w w' := by
  have E : idleT t = ({ zeroT 2 with t := ⟨#[]⟩ } : ThingD) := by unfold idleT; rw [hk, if_neg (by decide)]; rfl
  rw [E]
  have R := round_any t.kind (tookA w t) ht.kind1 ht.kind2
  rw [hk] at R
  have c1 := tookA_c1 w t
  have c3 := tookW_c w t 2
  have C : Calls Tryd.prog 25 #[.pointer a, .int .i64 t.wd] (tookW w t 2) fun e w' => e = .returned (.string ⟨#[]⟩) ∧ IdleAt w w' (.pointer a) t (zeroT 2) :=
    (text_idle (h.ext (tookW_ext w t 2)) (G.ext (tookW_ext w t 2)) t.wd).mono (by rintro e w' ⟨rfl, rfl⟩; exact ⟨rfl, IdleAt.of h (Upd.refl _ _)⟩)
  have HC := Lib.hid C
  have HB := Lib.hid (tookB_blk w t)
  have HSZ := Lib.hid (thing_size' (zeroT 2) rfl)
  have HF := Lib.hid (show 0 + (thingCells (zeroT 2)).length ≤ (thingCells (zeroT 0)).length by rw [thingCells_len _ rfl, thingCells_len _ rfl]; decide)
  have H1 := Lib.hid (one_cells (zeroT 2))
  have hsz : (thingCells t).toArray.size = 37 := by rw [List.size_toArray]; exact thingCells_len t ht.h
  clear G h E hk ht C
  go_enter Tryd.func31, Tryd.ntmps31
  go_wp2_with fail
  refine R.mono ?_
  rintro e w1 ⟨rfl, rfl⟩
  clear R
  go_wp2_with (refine wpList_storeAgg rfl 36 _ _ rfl (w.heap.size + 1 + 1) 0 rfl (thingCells (zeroT 2)) rfl HSZ.out (thingCells (zeroT 0)) 36 HB.out HF.out H1.out ?_)
  rw [over_thing _ _ rfl rfl]
  refine HC.out.mono ?_
  rintro e w2 ⟨rfl, T⟩
  clear c1 c3 HC HB HSZ HF H1
  have y2 : (thingCells (zeroT 2)).toArray.setIfInBounds 4 (.string ⟨#[]⟩) = (thingCells { zeroT 2 with t := ⟨#[]⟩ }).toArray := rfl
  have T2 := T.set 4 _ y2
  have c3 := cell_of_blk T.b0 3
  have k2 : w2.cell? ⟨w.heap.size + 1 + 1, 2, none⟩ = some (.int .u64 0) := cell_of_blk T.b2 2
  have k3 : w2.cell? ⟨w.heap.size + 1 + 1, 4, none⟩ = some (.string ⟨#[]⟩) := cell_of_blk T.b2 4
  have f2 : w2.frozen? ⟨w.heap.size + 1 + 1, 2, none⟩ = false := free_of_blk T.b2 2
  have f3 : w2.frozen? ⟨w.heap.size + 1 + 1, 4, none⟩ = false := free_of_blk T.b2 4
  have d3 : w2.cell? ⟨w.heap.size, 3, none⟩ = some (.int .i64 t.wd) := c3
  clear c3 T
  generalize hy : ({ zeroT 2 with t := ⟨#[]⟩ } : ThingD) = yy at T2 ⊢
  have HYL : yy.h.length = 32 := by rw [← hy]; rfl
  have HYE := Lib.hid hy
  clear hy y2
  have HT := Lib.hid T2
  have HO := Lib.hid T2.out
  have HL := Lib.hid (fun (j : Nat) (v : Value) (hv : (thingCells yy)[j]? = some v) => show World.cell? _ ⟨w.heap.size + 1 + 1, 0 + j, none⟩ = some v from by rw [cell_of_blk T2.b2]; simpa using hv)
  have HSZ := Lib.hid (thing_size' yy HYL)
  have HF := Lib.hid (show 0 + (thingCells yy).length ≤ (thingCells (zeroT 0)).length by rw [thingCells_len _ HYL, thingCells_len _ rfl]; decide)
  have H1 := Lib.hid (one_cells yy)
  have HOV := Lib.hid (over_thing (zeroT 0) yy rfl HYL)
  have HZ := Lib.hid (fun cs => blk_setRow T2.b1 cs)
  have HYS := Lib.hid HYL
  clear T2 HYL
  go_wp2_with (first
    | (refine wpList_loadAgg rfl 36 _ rfl (w.heap.size + 1 + 1) 0 rfl (thingCells yy) Tryd.underlying36 rfl HSZ.out HL.out ?_)
    | (refine wpList_storeAgg rfl 36 _ _ rfl (w.heap.size + 1) 0 rfl (thingCells yy) rfl HSZ.out (thingCells (zeroT 0)) 36 HT.out.b1 HF.out H1.out ?_))
  rw [HOV.out]
  refine bodyPost_ret (v := .agg (thingCells yy).toArray) (results_cell_row rfl _ _ (w.heap.size + 1) 36 (thingCells yy).toArray (0, 0) _ rfl (HZ.out _) Tryd.underlying36 rfl (by have := HSZ.out; simpa using this)) rfl ⟨congrArg (fun z => Ending.returned (.agg (thingCells z).toArray)) HYE.out.symm, HO.out _⟩
set_option maxRecDepth 8000 in
set_option maxHeartbeats 1000000 in
theorem tookIdle_3 {B : Nat} {se : Nat → Addr} {w : World} {a : Option Addr} (G : Genv B se w) (h : IdleR (.pointer a) w) (t : ThingD) (ht : t.Ok) (hk : t.kind % 4 = 3) :
    Calls Tryd.prog 31 #[.pointer a, .agg (thingCells t).toArray] w fun e w' => e = .returned (.agg (thingCells (idleT t)).toArray) ∧ IdleR (.pointer a) w' ∧ Ext w w' := by
  have E : idleT t = ({ zeroT 3 with h := zeros32 } : ThingD) := by unfold idleT; rw [hk, if_neg (by decide)]; rfl
  rw [E]
  have R := round_any t.kind (tookA w t) ht.kind1 ht.kind2
  rw [hk] at R
  have c1 := tookA_c1 w t
  have c3 := tookW_c w t 3
  have C : Calls Tryd.prog 56 #[.pointer a] (tookW w t 3) fun e w' => e = .returned (.agg (zeros32.map u8v).toArray) ∧ IdleAt w w' (.pointer a) t (zeroT 3) :=
    (hash_idle (h.ext (tookW_ext w t 3))).mono (by rintro e w' ⟨rfl, u⟩; exact ⟨rfl, IdleAt.of h u⟩)
  have HC := Lib.hid C
  have HB := Lib.hid (tookB_blk w t)
  have HSZ := Lib.hid (thing_size' (zeroT 3) rfl)
  have HF := Lib.hid (show 0 + (thingCells (zeroT 3)).length ≤ (thingCells (zeroT 0)).length by rw [thingCells_len _ rfl, thingCells_len _ rfl]; decide)
  have H1 := Lib.hid (one_cells (zeroT 3))
  have hsz : (thingCells t).toArray.size = 37 := by rw [List.size_toArray]; exact thingCells_len t ht.h
  clear G h E hk ht C
  go_enter Tryd.func31, Tryd.ntmps31
  go_wp2_with fail
  refine R.mono ?_
  rintro e w1 ⟨rfl, rfl⟩
  clear R
  go_wp2_with (refine wpList_storeAgg rfl 36 _ _ rfl (w.heap.size + 1 + 1) 0 rfl (thingCells (zeroT 3)) rfl HSZ.out (thingCells (zeroT 0)) 36 HB.out HF.out H1.out ?_)
  rw [over_thing _ _ rfl rfl]
  refine HC.out.mono ?_
  rintro e w2 ⟨rfl, T⟩
  clear c1 c3 HC HB HSZ HF H1
  have T2 := T.row (over (thingCells (zeroT 3)) 5 (zeros32.map u8v)).toArray (by rw [over_h _ _ rfl ((show zeros32.length = 32 from rfl))])
  have HB3 := Lib.hid T.b2
  have HSZ3 := Lib.hid (show (Tryd.prog.info? 34).map (·.size) = some (zeros32.map u8v).length by rw [List.length_map, (show zeros32.length = 32 from rfl)]; exact hash_size')
  have HF3 := Lib.hid (show 5 + (zeros32.map u8v).length ≤ (thingCells (zeroT 3)).length by rw [List.length_map, (show zeros32.length = 32 from rfl), thingCells_len _ rfl]; decide)
  have H13 := Lib.hid (one_h zeros32)
  have c3 := cell_of_blk T.b0 3
  have d3 : w2.cell? ⟨w.heap.size, 3, none⟩ = some (.int .i64 t.wd) := c3
  clear c3 T
  generalize hy : ({ zeroT 3 with h := zeros32 } : ThingD) = yy at T2 ⊢
  have HYL : yy.h.length = 32 := by rw [← hy]; exact (show zeros32.length = 32 from rfl)
  have HYE := Lib.hid hy
  clear hy
  have HT := Lib.hid T2
  have HO := Lib.hid T2.out
  have HL := Lib.hid (fun (j : Nat) (v : Value) (hv : (thingCells yy)[j]? = some v) => show World.cell? _ ⟨w.heap.size + 1 + 1, 0 + j, none⟩ = some v from by rw [cell_of_blk T2.b2]; simpa using hv)
  have HSZ := Lib.hid (thing_size' yy HYL)
  have HF := Lib.hid (show 0 + (thingCells yy).length ≤ (thingCells (zeroT 0)).length by rw [thingCells_len _ HYL, thingCells_len _ rfl]; decide)
  have H1 := Lib.hid (one_cells yy)
  have HOV := Lib.hid (over_thing (zeroT 0) yy rfl HYL)
  have HZ := Lib.hid (fun cs => blk_setRow T2.b1 cs)
  have HYS := Lib.hid HYL
  clear T2 HYL
  go_wp2_with (first
    | (refine wpList_storeAgg rfl 34 _ _ rfl (w.heap.size + 1 + 1) 5 rfl (zeros32.map u8v) rfl HSZ3.out (thingCells (zeroT 3)) 36 HB3.out HF3.out H13.out ?_)
    | (refine wpList_loadAgg rfl 36 _ rfl (w.heap.size + 1 + 1) 0 rfl (thingCells yy) Tryd.underlying36 rfl HSZ.out HL.out ?_)
    | (refine wpList_storeAgg rfl 36 _ _ rfl (w.heap.size + 1) 0 rfl (thingCells yy) rfl HSZ.out (thingCells (zeroT 0)) 36 HT.out.b1 HF.out H1.out ?_))
  rw [HOV.out]
  refine bodyPost_ret (v := .agg (thingCells yy).toArray) (results_cell_row rfl _ _ (w.heap.size + 1) 36 (thingCells yy).toArray (0, 0) _ rfl (HZ.out _) Tryd.underlying36 rfl (by have := HSZ.out; simpa using this)) rfl ⟨congrArg (fun z => Ending.returned (.agg (thingCells z).toArray)) HYE.out.symm, HO.out _⟩
theorem tookIdle {B : Nat} {se : Nat → Addr} {w : World} {p : Value} (G : Genv B se w) (h : IdleR p w) (t : ThingD) (ht : t.Ok) :
    Calls Tryd.prog 31 #[p, .agg (thingCells t).toArray] w fun e w' => e = .returned (.agg (thingCells (idleT t)).toArray) ∧ IdleR p w' ∧ Ext w w' := by
  obtain ⟨a, rfl⟩ := h.ptr
  rcases kinds t with hk | hk | hk | hk
  · exact tookIdle_0 G h t ht hk
  · exact tookIdle_1 G h t ht hk
  · exact tookIdle_2 G h t ht hk
  · exact tookIdle_3 G h t ht hk
end Go.Proofs.YtkabomkikbdigaaDoor
