/- meant: what a read of the document's reader answers (printed out of took's text by gen_meant.py). -/
import Derived.Test.YtkabomkikbdigaaDoorTook2
import Derived.Test.YtkabomkikbdigaaDoorRefr4
namespace Go.Proofs.YtkabomkikbdigaaDoor
open Go.RowKit Go.Lib

/-- What is known behind the read: the reader, the three variables. -/
structure MeantAt (w w' : World) (b : Nat) (x : RdD) (t y : ThingD) : Prop where
  r : RefAt w' b x
  u : Upd (one b) w w'
  b0 : w'.heap[w.heap.size]? = some (.cells (thingCells t).toArray 36 (0, 0))
  b1 : w'.heap[w.heap.size + 1]? = some (.cells (thingCells (zeroT 0)).toArray 36 (0, 0))
  b2 : w'.heap[w.heap.size + 2]? = some (.cells (thingCells y).toArray 36 (0, 0))
  hb : b < w.heap.size
theorem MeantAt.of {b : Nat} {w w' : World} {x x' : RdD} {t : ThingD} {k : Int} (h : RefAt w b x) (hr : RefAt w' b x') (hu : Upd (one b) (tookW w t k) w') : MeantAt w w' b x' t (zeroT k) := by
  have hb := lt_of_blk h.blk
  obtain ⟨a0, a1, a2⟩ := tookW_blk w t k
  have n0 : ¬ one b w.heap.size := fun e => by have e' : w.heap.size = b := e; omega
  have n1 : ¬ one b (w.heap.size + 1) := fun e => by have e' : w.heap.size + 1 = b := e; omega
  have n2 : ¬ one b (w.heap.size + 2) := fun e => by have e' : w.heap.size + 2 = b := e; omega
  exact ⟨hr, (Upd.ext (tookW_ext w t k) _).trans (hu.mono (fun _ _ h => h)), hu.blk a0 n0, hu.blk a1 n1, hu.blk a2 n2, hb⟩
theorem MeantAt.set {w w' : World} {b : Nat} {x : RdD} {t y z : ThingD} (h : MeantAt w w' b x t y) (i : Nat) (v : Value) (hz : (thingCells y).toArray.setIfInBounds i v = (thingCells z).toArray) : MeantAt w (w'.setCell ⟨w.heap.size + 2, i, none⟩ v) b x t z := by
  have k1 : Upd (one (w.heap.size + 2)) w' (w'.setCell ⟨w.heap.size + 2, i, none⟩ v) := Upd.setCell (p := ⟨w.heap.size + 2, i, none⟩) (Upd.refl (one (w.heap.size + 2)) w') (.inr (show one (w.heap.size + 2) (w.heap.size + 2) from rfl)) v
  exact ⟨h.r.upd k1 (fun e => by have e' : b = w.heap.size + 2 := e; have := h.hb; omega), h.u.setCell (.inl (by show w.heap.size ≤ w.heap.size + 2; omega)) v, blk_set_ne h.b0 (by show w.heap.size ≠ w.heap.size + 2; omega) v, blk_set_ne h.b1 (by show w.heap.size + 1 ≠ w.heap.size + 2; omega) v, by rw [← hz]; exact blk_set h.b2 i v, h.hb⟩
theorem MeantAt.row {w w' : World} {b : Nat} {x : RdD} {t y z : ThingD} (h : MeantAt w w' b x t y) (cs : Array Value) (hz : cs = (thingCells z).toArray) : MeantAt w (w'.setRow (w.heap.size + 2) cs) b x t z := by
  have k1 : Upd (one (w.heap.size + 2)) w' (w'.setRow (w.heap.size + 2) cs) := (Upd.refl (one (w.heap.size + 2)) w').setRow (.inr (show one _ _ from rfl)) cs
  exact ⟨h.r.upd k1 (fun e => by have e' : b = w.heap.size + 2 := e; have := h.hb; omega), h.u.setRow (.inl (by omega)) cs, blk_setRow_ne h.b0 (by omega) cs, blk_setRow_ne h.b1 (by omega) cs, by rw [← hz]; exact blk_setRow h.b2 cs, h.hb⟩
theorem MeantAt.out {w w' : World} {b : Nat} {x : RdD} {t y : ThingD} (h : MeantAt w w' b x t y) (cs : Array Value) : RefAt (w'.setRow (w.heap.size + 1) cs) b x ∧ Upd (one b) w (w'.setRow (w.heap.size + 1) cs) := by
  have k1 : Upd (one (w.heap.size + 1)) w' (w'.setRow (w.heap.size + 1) cs) := (Upd.refl (one (w.heap.size + 1)) w').setRow (.inr (show one _ _ from rfl)) cs
  exact ⟨h.r.upd k1 (fun e => by have e' : b = w.heap.size + 1 := e; have := h.hb; omega), h.u.setRow (.inl (by omega)) cs⟩
set_option maxRecDepth 8000 in
set_option maxHeartbeats 1000000 in
theorem meant_0 {b : Nat} {w : World} {x : RdD} (h : RefAt w b x) (t : ThingD) (ht : t.Ok) (hk : t.kind % 4 = 0) :
    Calls Tryd.prog 32 #[.pointer (some ⟨b, 0, none⟩), .agg (thingCells t).toArray] w fun e w' => e = .returned (.agg (thingCells (tookD x t).1).toArray) ∧ RefAt w' b (tookD x t).2 ∧ Upd (one b) w w' := by
  have E : tookD x t = ({ zeroT 0 with n := (x.fixed t.wd).1, wd := t.wd }, (x.fixed t.wd).2) := if_pos hk
  rw [E]
  have R := round_any t.kind (tookA w t) ht.kind1 ht.kind2
  rw [hk] at R
  have c1 := tookA_c1 w t
  have c3 := tookW_c w t 0
  have C : Calls Tryd.prog 57 #[.pointer (some ⟨b, 0, none⟩), .int .i64 t.wd] (tookW w t 0) fun e w' => e = .returned (.int .u64 (x.fixed t.wd).1) ∧ MeantAt w w' b (x.fixed t.wd).2 t (zeroT 0) :=
    (fixed_r (h.ext (tookW_ext w t 0)) t.wd).mono (by rintro e w' ⟨rfl, a, u⟩; exact ⟨rfl, MeantAt.of h a u⟩)
  have HC := Lib.hid C
  have HB := Lib.hid (tookB_blk w t)
  have HSZ := Lib.hid (thing_size' (zeroT 0) rfl)
  have HF := Lib.hid (show 0 + (thingCells (zeroT 0)).length ≤ (thingCells (zeroT 0)).length by rw [thingCells_len _ rfl]; decide)
  have H1 := Lib.hid (one_cells (zeroT 0))
  have hsz : (thingCells t).toArray.size = 37 := by rw [List.size_toArray]; exact thingCells_len t ht.h
  clear h E hk ht C
  go_enter Tryd.func32, Tryd.ntmps32
  go_wp2_with fail
  refine R.mono ?_
  rintro e w1 ⟨rfl, rfl⟩
  clear R
  go_wp2_with (refine wpList_storeAgg rfl 36 _ _ rfl (w.heap.size + 1 + 1) 0 rfl (thingCells (zeroT 0)) rfl HSZ.out (thingCells (zeroT 0)) 36 HB.out HF.out H1.out ?_)
  rw [over_thing _ _ rfl rfl]
  refine HC.out.mono ?_
  rintro e w2 ⟨rfl, T⟩
  clear c1 c3 HC HB HSZ HF H1
  have y2 : (thingCells (zeroT 0)).toArray.setIfInBounds 2 (.int .u64 (x.fixed t.wd).1) = (thingCells { zeroT 0 with n := (x.fixed t.wd).1 }).toArray := rfl
  have y3 : (thingCells { zeroT 0 with n := (x.fixed t.wd).1 }).toArray.setIfInBounds 3 (.int .i64 t.wd) = (thingCells { zeroT 0 with n := (x.fixed t.wd).1, wd := t.wd }).toArray := rfl
  have T2 := (T.set 2 _ y2).set 3 _ y3
  have c3 := cell_of_blk T.b0 3
  have k2 : w2.cell? ⟨w.heap.size + 1 + 1, 2, none⟩ = some (.int .u64 0) := cell_of_blk T.b2 2
  have k3 : w2.cell? ⟨w.heap.size + 1 + 1, 3, none⟩ = some (.int .i64 0) := cell_of_blk T.b2 3
  have f2 : w2.frozen? ⟨w.heap.size + 1 + 1, 2, none⟩ = false := free_of_blk T.b2 2
  have f3 : w2.frozen? ⟨w.heap.size + 1 + 1, 3, none⟩ = false := free_of_blk T.b2 3
  have d3 : w2.cell? ⟨w.heap.size, 3, none⟩ = some (.int .i64 t.wd) := c3
  clear c3 T
  generalize hy : ({ zeroT 0 with n := (x.fixed t.wd).1, wd := t.wd } : ThingD) = yy at T2 ⊢
  have HYL : yy.h.length = 32 := by rw [← hy]; rfl
  have HYE := Lib.hid hy
  clear hy y2 y3
  have HT := Lib.hid T2
  have HO := Lib.hid T2.out
  have HL := Lib.hid (fun (j : Nat) (v : Value) (hv : (thingCells yy)[j]? = some v) => show World.cell? _ ⟨w.heap.size + 1 + 1, 0 + j, none⟩ = some v from by rw [cell_of_blk T2.b2]; simpa using hv)
  have HSZ := Lib.hid (thing_size' yy HYL)
  have HF := Lib.hid (show 0 + (thingCells yy).length ≤ (thingCells (zeroT 0)).length by rw [thingCells_len _ HYL, thingCells_len _ rfl]; decide)
  have H1 := Lib.hid (one_cells yy)
  have HOV := Lib.hid (over_thing (zeroT 0) yy rfl HYL)
  have HZ := Lib.hid (fun cs => blk_setRow T2.b1 cs)
  have HYS := Lib.hid HYL
  clear T2 HYL
  go_wp2_with (first
    | (refine wpList_loadAgg rfl 36 _ rfl (w.heap.size + 1 + 1) 0 rfl (thingCells yy) Tryd.underlying36 rfl HSZ.out HL.out ?_)
    | (refine wpList_storeAgg rfl 36 _ _ rfl (w.heap.size + 1) 0 rfl (thingCells yy) rfl HSZ.out (thingCells (zeroT 0)) 36 HT.out.b1 HF.out H1.out ?_))
  rw [HOV.out]
  refine bodyPost_ret (v := .agg (thingCells yy).toArray) (results_cell_row rfl _ _ (w.heap.size + 1) 36 (thingCells yy).toArray (0, 0) _ rfl (HZ.out _) Tryd.underlying36 rfl (by have := HSZ.out; simpa using this)) rfl ⟨congrArg (fun z => Ending.returned (.agg (thingCells z).toArray)) HYE.out.symm, HO.out _⟩
set_option maxRecDepth 8000 in
set_option maxHeartbeats 1000000 in
theorem meant_1 {b : Nat} {w : World} {x : RdD} (h : RefAt w b x) (t : ThingD) (ht : t.Ok) (hk : t.kind % 4 = 1) :
    Calls Tryd.prog 32 #[.pointer (some ⟨b, 0, none⟩), .agg (thingCells t).toArray] w fun e w' => e = .returned (.agg (thingCells (tookD x t).1).toArray) ∧ RefAt w' b (tookD x t).2 ∧ Upd (one b) w w' := by
  have E : tookD x t = ({ zeroT 1 with n := x.var.1 }, x.var.2) := by unfold tookD; rw [if_neg (by omega), if_pos hk]
  rw [E]
  have R := round_any t.kind (tookA w t) ht.kind1 ht.kind2
  rw [hk] at R
  have c1 := tookA_c1 w t
  have c3 := tookW_c w t 1
  have C : Calls Tryd.prog 58 #[.pointer (some ⟨b, 0, none⟩)] (tookW w t 1) fun e w' => e = .returned (.int .u64 x.var.1) ∧ MeantAt w w' b x.var.2 t (zeroT 1) :=
    (var_r (h.ext (tookW_ext w t 1))).mono (by rintro e w' ⟨rfl, a, u⟩; exact ⟨rfl, MeantAt.of h a u⟩)
  have HC := Lib.hid C
  have HB := Lib.hid (tookB_blk w t)
  have HSZ := Lib.hid (thing_size' (zeroT 1) rfl)
  have HF := Lib.hid (show 0 + (thingCells (zeroT 1)).length ≤ (thingCells (zeroT 0)).length by rw [thingCells_len _ rfl, thingCells_len _ rfl]; decide)
  have H1 := Lib.hid (one_cells (zeroT 1))
  have hsz : (thingCells t).toArray.size = 37 := by rw [List.size_toArray]; exact thingCells_len t ht.h
  clear h E hk ht C
  go_enter Tryd.func32, Tryd.ntmps32
  go_wp2_with fail
  refine R.mono ?_
  rintro e w1 ⟨rfl, rfl⟩
  clear R
  go_wp2_with (refine wpList_storeAgg rfl 36 _ _ rfl (w.heap.size + 1 + 1) 0 rfl (thingCells (zeroT 1)) rfl HSZ.out (thingCells (zeroT 0)) 36 HB.out HF.out H1.out ?_)
  rw [over_thing _ _ rfl rfl]
  refine HC.out.mono ?_
  rintro e w2 ⟨rfl, T⟩
  clear c1 c3 HC HB HSZ HF H1
  have y2 : (thingCells (zeroT 1)).toArray.setIfInBounds 2 (.int .u64 x.var.1) = (thingCells { zeroT 1 with n := x.var.1 }).toArray := rfl
  have T2 := T.set 2 _ y2
  have c3 := cell_of_blk T.b0 3
  have k2 : w2.cell? ⟨w.heap.size + 1 + 1, 2, none⟩ = some (.int .u64 0) := cell_of_blk T.b2 2
  have k3 : w2.cell? ⟨w.heap.size + 1 + 1, 3, none⟩ = some (.int .i64 0) := cell_of_blk T.b2 3
  have f2 : w2.frozen? ⟨w.heap.size + 1 + 1, 2, none⟩ = false := free_of_blk T.b2 2
  have f3 : w2.frozen? ⟨w.heap.size + 1 + 1, 3, none⟩ = false := free_of_blk T.b2 3
  have d3 : w2.cell? ⟨w.heap.size, 3, none⟩ = some (.int .i64 t.wd) := c3
  clear c3 T
  generalize hy : ({ zeroT 1 with n := x.var.1 } : ThingD) = yy at T2 ⊢
  have HYL : yy.h.length = 32 := by rw [← hy]; rfl
  have HYE := Lib.hid hy
  clear hy y2
  have HT := Lib.hid T2
  have HO := Lib.hid T2.out
  have HL := Lib.hid (fun (j : Nat) (v : Value) (hv : (thingCells yy)[j]? = some v) => show World.cell? _ ⟨w.heap.size + 1 + 1, 0 + j, none⟩ = some v from by rw [cell_of_blk T2.b2]; simpa using hv)
  have HSZ := Lib.hid (thing_size' yy HYL)
  have HF := Lib.hid (show 0 + (thingCells yy).length ≤ (thingCells (zeroT 0)).length by rw [thingCells_len _ HYL, thingCells_len _ rfl]; decide)
  have H1 := Lib.hid (one_cells yy)
  have HOV := Lib.hid (over_thing (zeroT 0) yy rfl HYL)
  have HZ := Lib.hid (fun cs => blk_setRow T2.b1 cs)
  have HYS := Lib.hid HYL
  clear T2 HYL
  go_wp2_with (first
    | (refine wpList_loadAgg rfl 36 _ rfl (w.heap.size + 1 + 1) 0 rfl (thingCells yy) Tryd.underlying36 rfl HSZ.out HL.out ?_)
    | (refine wpList_storeAgg rfl 36 _ _ rfl (w.heap.size + 1) 0 rfl (thingCells yy) rfl HSZ.out (thingCells (zeroT 0)) 36 HT.out.b1 HF.out H1.out ?_))
  rw [HOV.out]
  refine bodyPost_ret (v := .agg (thingCells yy).toArray) (results_cell_row rfl _ _ (w.heap.size + 1) 36 (thingCells yy).toArray (0, 0) _ rfl (HZ.out _) Tryd.underlying36 rfl (by have := HSZ.out; simpa using this)) rfl ⟨congrArg (fun z => Ending.returned (.agg (thingCells z).toArray)) HYE.out.symm, HO.out _⟩
set_option maxRecDepth 8000 in
set_option maxHeartbeats 1000000 in
theorem meant_2 {b : Nat} {w : World} {x : RdD} (h : RefAt w b x) (t : ThingD) (ht : t.Ok) (hk : t.kind % 4 = 2) :
    Calls Tryd.prog 32 #[.pointer (some ⟨b, 0, none⟩), .agg (thingCells t).toArray] w fun e w' => e = .returned (.agg (thingCells (tookD x t).1).toArray) ∧ RefAt w' b (tookD x t).2 ∧ Upd (one b) w w' := by
  have E : tookD x t = ({ zeroT 2 with t := str (x.text t.wd).1 }, (x.text t.wd).2) := by unfold tookD; rw [if_neg (by omega), if_neg (by omega), if_pos hk]
  rw [E]
  have R := round_any t.kind (tookA w t) ht.kind1 ht.kind2
  rw [hk] at R
  have c1 := tookA_c1 w t
  have c3 := tookW_c w t 2
  have C : Calls Tryd.prog 59 #[.pointer (some ⟨b, 0, none⟩), .int .i64 t.wd] (tookW w t 2) fun e w' => e = .returned (.string (str (x.text t.wd).1)) ∧ MeantAt w w' b (x.text t.wd).2 t (zeroT 2) :=
    (text_r (h.ext (tookW_ext w t 2)) t.wd ht.wd2).mono (by rintro e w' ⟨rfl, a, u⟩; exact ⟨rfl, MeantAt.of h a u⟩)
  have HC := Lib.hid C
  have HB := Lib.hid (tookB_blk w t)
  have HSZ := Lib.hid (thing_size' (zeroT 2) rfl)
  have HF := Lib.hid (show 0 + (thingCells (zeroT 2)).length ≤ (thingCells (zeroT 0)).length by rw [thingCells_len _ rfl, thingCells_len _ rfl]; decide)
  have H1 := Lib.hid (one_cells (zeroT 2))
  have hsz : (thingCells t).toArray.size = 37 := by rw [List.size_toArray]; exact thingCells_len t ht.h
  clear h E hk ht C
  go_enter Tryd.func32, Tryd.ntmps32
  go_wp2_with fail
  refine R.mono ?_
  rintro e w1 ⟨rfl, rfl⟩
  clear R
  go_wp2_with (refine wpList_storeAgg rfl 36 _ _ rfl (w.heap.size + 1 + 1) 0 rfl (thingCells (zeroT 2)) rfl HSZ.out (thingCells (zeroT 0)) 36 HB.out HF.out H1.out ?_)
  rw [over_thing _ _ rfl rfl]
  refine HC.out.mono ?_
  rintro e w2 ⟨rfl, T⟩
  clear c1 c3 HC HB HSZ HF H1
  have y2 : (thingCells (zeroT 2)).toArray.setIfInBounds 4 (.string (str (x.text t.wd).1)) = (thingCells { zeroT 2 with t := str (x.text t.wd).1 }).toArray := rfl
  have T2 := T.set 4 _ y2
  have c3 := cell_of_blk T.b0 3
  have k2 : w2.cell? ⟨w.heap.size + 1 + 1, 2, none⟩ = some (.int .u64 0) := cell_of_blk T.b2 2
  have k3 : w2.cell? ⟨w.heap.size + 1 + 1, 4, none⟩ = some (.string ⟨#[]⟩) := cell_of_blk T.b2 4
  have f2 : w2.frozen? ⟨w.heap.size + 1 + 1, 2, none⟩ = false := free_of_blk T.b2 2
  have f3 : w2.frozen? ⟨w.heap.size + 1 + 1, 4, none⟩ = false := free_of_blk T.b2 4
  have d3 : w2.cell? ⟨w.heap.size, 3, none⟩ = some (.int .i64 t.wd) := c3
  clear c3 T
  generalize hy : ({ zeroT 2 with t := str (x.text t.wd).1 } : ThingD) = yy at T2 ⊢
  have HYL : yy.h.length = 32 := by rw [← hy]; rfl
  have HYE := Lib.hid hy
  clear hy y2
  have HT := Lib.hid T2
  have HO := Lib.hid T2.out
  have HL := Lib.hid (fun (j : Nat) (v : Value) (hv : (thingCells yy)[j]? = some v) => show World.cell? _ ⟨w.heap.size + 1 + 1, 0 + j, none⟩ = some v from by rw [cell_of_blk T2.b2]; simpa using hv)
  have HSZ := Lib.hid (thing_size' yy HYL)
  have HF := Lib.hid (show 0 + (thingCells yy).length ≤ (thingCells (zeroT 0)).length by rw [thingCells_len _ HYL, thingCells_len _ rfl]; decide)
  have H1 := Lib.hid (one_cells yy)
  have HOV := Lib.hid (over_thing (zeroT 0) yy rfl HYL)
  have HZ := Lib.hid (fun cs => blk_setRow T2.b1 cs)
  have HYS := Lib.hid HYL
  clear T2 HYL
  go_wp2_with (first
    | (refine wpList_loadAgg rfl 36 _ rfl (w.heap.size + 1 + 1) 0 rfl (thingCells yy) Tryd.underlying36 rfl HSZ.out HL.out ?_)
    | (refine wpList_storeAgg rfl 36 _ _ rfl (w.heap.size + 1) 0 rfl (thingCells yy) rfl HSZ.out (thingCells (zeroT 0)) 36 HT.out.b1 HF.out H1.out ?_))
  rw [HOV.out]
  refine bodyPost_ret (v := .agg (thingCells yy).toArray) (results_cell_row rfl _ _ (w.heap.size + 1) 36 (thingCells yy).toArray (0, 0) _ rfl (HZ.out _) Tryd.underlying36 rfl (by have := HSZ.out; simpa using this)) rfl ⟨congrArg (fun z => Ending.returned (.agg (thingCells z).toArray)) HYE.out.symm, HO.out _⟩
set_option maxRecDepth 8000 in
set_option maxHeartbeats 1000000 in
theorem meant_3 {b : Nat} {w : World} {x : RdD} (h : RefAt w b x) (t : ThingD) (ht : t.Ok) (hk : t.kind % 4 = 3) :
    Calls Tryd.prog 32 #[.pointer (some ⟨b, 0, none⟩), .agg (thingCells t).toArray] w fun e w' => e = .returned (.agg (thingCells (tookD x t).1).toArray) ∧ RefAt w' b (tookD x t).2 ∧ Upd (one b) w w' := by
  have E : tookD x t = ({ zeroT 3 with h := x.hash.1 }, x.hash.2) := by unfold tookD; rw [if_neg (by omega), if_neg (by omega), if_neg (by omega)]
  rw [E]
  have R := round_any t.kind (tookA w t) ht.kind1 ht.kind2
  rw [hk] at R
  have c1 := tookA_c1 w t
  have c3 := tookW_c w t 3
  have C : Calls Tryd.prog 60 #[.pointer (some ⟨b, 0, none⟩)] (tookW w t 3) fun e w' => e = .returned (.agg (x.hash.1.map u8v).toArray) ∧ MeantAt w w' b x.hash.2 t (zeroT 3) :=
    (hash_r (h.ext (tookW_ext w t 3))).mono (by rintro e w' ⟨rfl, a, u⟩; exact ⟨rfl, MeantAt.of h a u⟩)
  have HC := Lib.hid C
  have HB := Lib.hid (tookB_blk w t)
  have HSZ := Lib.hid (thing_size' (zeroT 3) rfl)
  have HF := Lib.hid (show 0 + (thingCells (zeroT 3)).length ≤ (thingCells (zeroT 0)).length by rw [thingCells_len _ rfl, thingCells_len _ rfl]; decide)
  have H1 := Lib.hid (one_cells (zeroT 3))
  have hsz : (thingCells t).toArray.size = 37 := by rw [List.size_toArray]; exact thingCells_len t ht.h
  clear h E hk ht C
  go_enter Tryd.func32, Tryd.ntmps32
  go_wp2_with fail
  refine R.mono ?_
  rintro e w1 ⟨rfl, rfl⟩
  clear R
  go_wp2_with (refine wpList_storeAgg rfl 36 _ _ rfl (w.heap.size + 1 + 1) 0 rfl (thingCells (zeroT 3)) rfl HSZ.out (thingCells (zeroT 0)) 36 HB.out HF.out H1.out ?_)
  rw [over_thing _ _ rfl rfl]
  refine HC.out.mono ?_
  rintro e w2 ⟨rfl, T⟩
  clear c1 c3 HC HB HSZ HF H1
  have T2 := T.row (over (thingCells (zeroT 3)) 5 (x.hash.1.map u8v)).toArray (by rw [over_h _ _ rfl (hash_len x)])
  have HB3 := Lib.hid T.b2
  have HSZ3 := Lib.hid (show (Tryd.prog.info? 34).map (·.size) = some (x.hash.1.map u8v).length by rw [List.length_map, hash_len]; exact hash_size')
  have HF3 := Lib.hid (show 5 + (x.hash.1.map u8v).length ≤ (thingCells (zeroT 3)).length by rw [List.length_map, hash_len, thingCells_len _ rfl]; decide)
  have H13 := Lib.hid (one_h x.hash.1)
  have c3 := cell_of_blk T.b0 3
  have d3 : w2.cell? ⟨w.heap.size, 3, none⟩ = some (.int .i64 t.wd) := c3
  clear c3 T
  generalize hy : ({ zeroT 3 with h := x.hash.1 } : ThingD) = yy at T2 ⊢
  have HYL : yy.h.length = 32 := by rw [← hy]; exact hash_len x
  have HYE := Lib.hid hy
  clear hy
  have HT := Lib.hid T2
  have HO := Lib.hid T2.out
  have HL := Lib.hid (fun (j : Nat) (v : Value) (hv : (thingCells yy)[j]? = some v) => show World.cell? _ ⟨w.heap.size + 1 + 1, 0 + j, none⟩ = some v from by rw [cell_of_blk T2.b2]; simpa using hv)
  have HSZ := Lib.hid (thing_size' yy HYL)
  have HF := Lib.hid (show 0 + (thingCells yy).length ≤ (thingCells (zeroT 0)).length by rw [thingCells_len _ HYL, thingCells_len _ rfl]; decide)
  have H1 := Lib.hid (one_cells yy)
  have HOV := Lib.hid (over_thing (zeroT 0) yy rfl HYL)
  have HZ := Lib.hid (fun cs => blk_setRow T2.b1 cs)
  have HYS := Lib.hid HYL
  clear T2 HYL
  go_wp2_with (first
    | (refine wpList_storeAgg rfl 34 _ _ rfl (w.heap.size + 1 + 1) 5 rfl (x.hash.1.map u8v) rfl HSZ3.out (thingCells (zeroT 3)) 36 HB3.out HF3.out H13.out ?_)
    | (refine wpList_loadAgg rfl 36 _ rfl (w.heap.size + 1 + 1) 0 rfl (thingCells yy) Tryd.underlying36 rfl HSZ.out HL.out ?_)
    | (refine wpList_storeAgg rfl 36 _ _ rfl (w.heap.size + 1) 0 rfl (thingCells yy) rfl HSZ.out (thingCells (zeroT 0)) 36 HT.out.b1 HF.out H1.out ?_))
  rw [HOV.out]
  refine bodyPost_ret (v := .agg (thingCells yy).toArray) (results_cell_row rfl _ _ (w.heap.size + 1) 36 (thingCells yy).toArray (0, 0) _ rfl (HZ.out _) Tryd.underlying36 rfl (by have := HSZ.out; simpa using this)) rfl ⟨congrArg (fun z => Ending.returned (.agg (thingCells z).toArray)) HYE.out.symm, HO.out _⟩
theorem meant_ok {b : Nat} {w : World} {x : RdD} (h : RefAt w b x) (t : ThingD) (ht : t.Ok) :
    Calls Tryd.prog 32 #[.pointer (some ⟨b, 0, none⟩), .agg (thingCells t).toArray] w fun e w' => e = .returned (.agg (thingCells (tookD x t).1).toArray) ∧ RefAt w' b (tookD x t).2 ∧ Upd (one b) w w' := by
  rcases kinds t with hk | hk | hk | hk
  · exact meant_0 h t ht hk
  · exact meant_1 h t ht hk
  · exact meant_2 h t ht hk
  · exact meant_3 h t ht hk
end Go.Proofs.YtkabomkikbdigaaDoor
