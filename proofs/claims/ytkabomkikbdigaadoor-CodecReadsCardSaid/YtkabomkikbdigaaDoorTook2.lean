/- took: the walk, kind for kind. -/
import Derived.Test.YtkabomkikbdigaaDoorTook
namespace Go.Proofs.YtkabomkikbdigaaDoor
open Go.RowKit Go.Lib

abbrev tookA (w : World) (t : ThingD) : World := (w.alloc (.cells (thingCells t).toArray 36)).alloc (.cells zero37 36)
theorem tookA_c1 (w : World) (t : ThingD) : (tookA w t).cell? ⟨w.heap.size, 1, none⟩ = some (.int .i64 t.kind) := (thing_cells (blk_alloc_lt (blk_alloc w _) _)).2.1
theorem tookB_blk (w : World) (t : ThingD) : ((tookA w t).alloc (.cells zero37 36)).heap[w.heap.size + 2]? = some (.cells (thingCells (zeroT 0)).toArray 36 (0, 0)) := by
  have := blk_alloc (tookA w t) (.cells zero37 36)
  rw [World.size_alloc, World.size_alloc] at this
  exact this
theorem tookW_c (w : World) (t : ThingD) (k : Int) : (((tookA w t).alloc (.cells zero37 36)).setRow (w.heap.size + 1 + 1) (over (thingCells (zeroT 0)) 0 (thingCells (zeroT k))).toArray).cell? ⟨w.heap.size, 3, none⟩ = some (.int .i64 t.wd) := by
  rw [over_thing _ _ rfl rfl]
  exact (thing_cells (tookW_blk w t k).1).2.2.2.1
theorem thing_size' (x : ThingD) (h : x.h.length = 32) : (Tryd.prog.info? 36).map (·.size) = some (thingCells x).length := by rw [thingCells_len x h]; exact thing_size
set_option maxRecDepth 8000 in
set_option maxHeartbeats 1000000 in
theorem took_0 {B b : Nat} {se : Nat → Addr} {w : World} {S : Nat → Prop} {x : RdD} (G : Genv B se w) (h : Reader B se w S b x) (t : ThingD) (ht : t.Ok) (hk : t.kind % 4 = 0) :
    Calls Tryd.prog 31 #[.pointer (some ⟨b, 0, none⟩), .agg (thingCells t).toArray] w fun e w' => e = .returned (.agg (thingCells (tookD x t).1).toArray) ∧ Reader B se w' (plus S w.heap.size w'.heap.size) b (tookD x t).2 ∧ Upd (one b) w w' := by
  have E : tookD x t = ({ zeroT 0 with n := (x.fixed t.wd).1, wd := t.wd }, (x.fixed t.wd).2) := if_pos hk
  rw [E]
  have R := round_any t.kind (tookA w t) ht.kind1 ht.kind2
  rw [hk] at R
  have c1 := tookA_c1 w t
  have c3 := tookW_c w t 0
  have C : Calls Tryd.prog 35 #[.pointer (some ⟨b, 0, none⟩), .int .i64 t.wd] (tookW w t 0) fun e w' => e = .returned (.int .u64 (x.fixed t.wd).1) ∧ TookAt B se w w' S b (x.fixed t.wd).2 t (zeroT 0) :=
    (fixed_ok (G.ext (tookW_ext w t 0)) (h.ext (tookW_ext w t 0)) t.wd).mono (by rintro e w' ⟨rfl, a, u⟩; exact ⟨rfl, TookAt.of G h a u⟩)
  have HC := Lib.hid C
  have HB := Lib.hid (tookB_blk w t)
  have HSZ := Lib.hid (thing_size' (zeroT 0) rfl)
  have HF := Lib.hid (show 0 + (thingCells (zeroT 0)).length ≤ (thingCells (zeroT 0)).length by rw [thingCells_len _ rfl]; decide)
  have H1 := Lib.hid (one_cells (zeroT 0))
  have hsz : (thingCells t).toArray.size = 37 := by rw [List.size_toArray]; exact thingCells_len t ht.h
  clear G h E hk ht C
  go_enter Tryd.func31, Tryd.ntmps31
  go_wp2_with fail
  refine R.mono ?_
  rintro e w1 ⟨rfl, rfl⟩
  clear R
  go_wp2_with (refine wpList_storeAgg rfl 36 _ _ rfl (w.heap.size + 1 + 1) 0 rfl (thingCells (zeroT 0)) rfl HSZ.out (thingCells (zeroT 0)) 36 HB.out HF.out H1.out ?_)
  rw [over_thing _ _ rfl rfl]
  refine HC.out.mono ?_
  rintro e w2 ⟨rfl, T⟩
  clear c1 c3 HC HB HSZ HF H1
  have y2 : (thingCells (zeroT 0)).toArray.setIfInBounds 2 (.int .u64 (x.fixed t.wd).1) = (thingCells { zeroT 0 with n := (x.fixed t.wd).1 }).toArray := rfl
  have y3 : (thingCells { zeroT 0 with n := (x.fixed t.wd).1 }).toArray.setIfInBounds 3 (.int .i64 t.wd) = (thingCells { zeroT 0 with n := (x.fixed t.wd).1, wd := t.wd }).toArray := rfl
  have T2 := (T.set 2 _ y2).set 3 _ y3
  have c3 := cell_of_blk T.b0 3
  have k2 : w2.cell? ⟨w.heap.size + 1 + 1, 2, none⟩ = some (.int .u64 0) := cell_of_blk T.b2 2
  have k3 : w2.cell? ⟨w.heap.size + 1 + 1, 3, none⟩ = some (.int .i64 0) := cell_of_blk T.b2 3
  have f2 : w2.frozen? ⟨w.heap.size + 1 + 1, 2, none⟩ = false := free_of_blk T.b2 2
  have f3 : w2.frozen? ⟨w.heap.size + 1 + 1, 3, none⟩ = false := free_of_blk T.b2 3
  have d3 : w2.cell? ⟨w.heap.size, 3, none⟩ = some (.int .i64 t.wd) := c3
  clear c3 T
  generalize hy : ({ zeroT 0 with n := (x.fixed t.wd).1, wd := t.wd } : ThingD) = yy at T2 ⊢
  have HYL : yy.h.length = 32 := by rw [← hy]; rfl
  have HYE := Lib.hid hy
  clear hy y2 y3
  have HT := Lib.hid T2
  have HO := Lib.hid T2.out
  have HL := Lib.hid (fun (j : Nat) (v : Value) (hv : (thingCells yy)[j]? = some v) => show World.cell? _ ⟨w.heap.size + 1 + 1, 0 + j, none⟩ = some v from by rw [cell_of_blk T2.b2]; simpa using hv)
  have HSZ := Lib.hid (thing_size' yy HYL)
  have HF := Lib.hid (show 0 + (thingCells yy).length ≤ (thingCells (zeroT 0)).length by rw [thingCells_len _ HYL, thingCells_len _ rfl]; decide)
  have H1 := Lib.hid (one_cells yy)
  have HOV := Lib.hid (over_thing (zeroT 0) yy rfl HYL)
  have HZ := Lib.hid (fun cs => blk_setRow T2.b1 cs)
  have HYS := Lib.hid HYL
  clear T2 HYL
  go_wp2_with (first
    | (refine wpList_loadAgg rfl 36 _ rfl (w.heap.size + 1 + 1) 0 rfl (thingCells yy) Tryd.underlying36 rfl HSZ.out HL.out ?_)
    | (refine wpList_storeAgg rfl 36 _ _ rfl (w.heap.size + 1) 0 rfl (thingCells yy) rfl HSZ.out (thingCells (zeroT 0)) 36 HT.out.b1 HF.out H1.out ?_))
  rw [HOV.out]
  refine bodyPost_ret (v := .agg (thingCells yy).toArray) (results_cell_row rfl _ _ (w.heap.size + 1) 36 (thingCells yy).toArray (0, 0) _ rfl (HZ.out _) Tryd.underlying36 rfl (by have := HSZ.out; simpa using this)) rfl ⟨congrArg (fun z => Ending.returned (.agg (thingCells z).toArray)) HYE.out.symm, HO.out _⟩
set_option maxRecDepth 8000 in
set_option maxHeartbeats 1000000 in
theorem took_1 {B b : Nat} {se : Nat → Addr} {w : World} {S : Nat → Prop} {x : RdD} (G : Genv B se w) (h : Reader B se w S b x) (t : ThingD) (ht : t.Ok) (hk : t.kind % 4 = 1) :
    Calls Tryd.prog 31 #[.pointer (some ⟨b, 0, none⟩), .agg (thingCells t).toArray] w fun e w' => e = .returned (.agg (thingCells (tookD x t).1).toArray) ∧ Reader B se w' (plus S w.heap.size w'.heap.size) b (tookD x t).2 ∧ Upd (one b) w w' := by
  have E : tookD x t = ({ zeroT 1 with n := x.var.1 }, x.var.2) := by unfold tookD; rw [if_neg (by omega), if_pos hk]
  rw [E]
  have R := round_any t.kind (tookA w t) ht.kind1 ht.kind2
  rw [hk] at R
  have c1 := tookA_c1 w t
  have c3 := tookW_c w t 1
  have C : Calls Tryd.prog 24 #[.pointer (some ⟨b, 0, none⟩)] (tookW w t 1) fun e w' => e = .returned (.int .u64 x.var.1) ∧ TookAt B se w w' S b x.var.2 t (zeroT 1) :=
    (var_ok (G.ext (tookW_ext w t 1)) (h.ext (tookW_ext w t 1))).mono (by rintro e w' ⟨rfl, a, u⟩; exact ⟨rfl, TookAt.of G h a u⟩)
  have HC := Lib.hid C
  have HB := Lib.hid (tookB_blk w t)
  have HSZ := Lib.hid (thing_size' (zeroT 1) rfl)
  have HF := Lib.hid (show 0 + (thingCells (zeroT 1)).length ≤ (thingCells (zeroT 0)).length by rw [thingCells_len _ rfl, thingCells_len _ rfl]; decide)
  have H1 := Lib.hid (one_cells (zeroT 1))
  have hsz : (thingCells t).toArray.size = 37 := by rw [List.size_toArray]; exact thingCells_len t ht.h
  clear G h E hk ht C
  go_enter Tryd.func31, Tryd.ntmps31
  go_wp2_with fail
  refine R.mono ?_
  rintro e w1 ⟨rfl, rfl⟩
  clear R
  go_wp2_with (refine wpList_storeAgg rfl 36 _ _ rfl (w.heap.size + 1 + 1) 0 rfl (thingCells (zeroT 1)) rfl HSZ.out (thingCells (zeroT 0)) 36 HB.out HF.out H1.out ?_)
  rw [over_thing _ _ rfl rfl]
  refine HC.out.mono ?_
  rintro e w2 ⟨rfl, T⟩
  clear c1 c3 HC HB HSZ HF H1
  have y2 : (thingCells (zeroT 1)).toArray.setIfInBounds 2 (.int .u64 x.var.1) = (thingCells { zeroT 1 with n := x.var.1 }).toArray := rfl
  have T2 := T.set 2 _ y2
  have c3 := cell_of_blk T.b0 3
  have k2 : w2.cell? ⟨w.heap.size + 1 + 1, 2, none⟩ = some (.int .u64 0) := cell_of_blk T.b2 2
  have k3 : w2.cell? ⟨w.heap.size + 1 + 1, 3, none⟩ = some (.int .i64 0) := cell_of_blk T.b2 3
  have f2 : w2.frozen? ⟨w.heap.size + 1 + 1, 2, none⟩ = false := free_of_blk T.b2 2
  have f3 : w2.frozen? ⟨w.heap.size + 1 + 1, 3, none⟩ = false := free_of_blk T.b2 3
  have d3 : w2.cell? ⟨w.heap.size, 3, none⟩ = some (.int .i64 t.wd) := c3
  clear c3 T
  generalize hy : ({ zeroT 1 with n := x.var.1 } : ThingD) = yy at T2 ⊢
  have HYL : yy.h.length = 32 := by rw [← hy]; rfl
  have HYE := Lib.hid hy
  clear hy y2
  have HT := Lib.hid T2
  have HO := Lib.hid T2.out
  have HL := Lib.hid (fun (j : Nat) (v : Value) (hv : (thingCells yy)[j]? = some v) => show World.cell? _ ⟨w.heap.size + 1 + 1, 0 + j, none⟩ = some v from by rw [cell_of_blk T2.b2]; simpa using hv)
  have HSZ := Lib.hid (thing_size' yy HYL)
  have HF := Lib.hid (show 0 + (thingCells yy).length ≤ (thingCells (zeroT 0)).length by rw [thingCells_len _ HYL, thingCells_len _ rfl]; decide)
  have H1 := Lib.hid (one_cells yy)
  have HOV := Lib.hid (over_thing (zeroT 0) yy rfl HYL)
  have HZ := Lib.hid (fun cs => blk_setRow T2.b1 cs)
  have HYS := Lib.hid HYL
  clear T2 HYL
  go_wp2_with (first
    | (refine wpList_loadAgg rfl 36 _ rfl (w.heap.size + 1 + 1) 0 rfl (thingCells yy) Tryd.underlying36 rfl HSZ.out HL.out ?_)
    | (refine wpList_storeAgg rfl 36 _ _ rfl (w.heap.size + 1) 0 rfl (thingCells yy) rfl HSZ.out (thingCells (zeroT 0)) 36 HT.out.b1 HF.out H1.out ?_))
  rw [HOV.out]
  refine bodyPost_ret (v := .agg (thingCells yy).toArray) (results_cell_row rfl _ _ (w.heap.size + 1) 36 (thingCells yy).toArray (0, 0) _ rfl (HZ.out _) Tryd.underlying36 rfl (by have := HSZ.out; simpa using this)) rfl ⟨congrArg (fun z => Ending.returned (.agg (thingCells z).toArray)) HYE.out.symm, HO.out _⟩
set_option maxRecDepth 8000 in
set_option maxHeartbeats 1000000 in
theorem took_2 {B b : Nat} {se : Nat → Addr} {w : World} {S : Nat → Prop} {x : RdD} (G : Genv B se w) (h : Reader B se w S b x) (t : ThingD) (ht : t.Ok) (hk : t.kind % 4 = 2) :
    Calls Tryd.prog 31 #[.pointer (some ⟨b, 0, none⟩), .agg (thingCells t).toArray] w fun e w' => e = .returned (.agg (thingCells (tookD x t).1).toArray) ∧ Reader B se w' (plus S w.heap.size w'.heap.size) b (tookD x t).2 ∧ Upd (one b) w w' := by
  have E : tookD x t = ({ zeroT 2 with t := str (x.text t.wd).1 }, (x.text t.wd).2) := by unfold tookD; rw [if_neg (by omega), if_neg (by omega), if_pos hk]
  rw [E]
  have R := round_any t.kind (tookA w t) ht.kind1 ht.kind2
  rw [hk] at R
  have c1 := tookA_c1 w t
  have c3 := tookW_c w t 2
  have C : Calls Tryd.prog 25 #[.pointer (some ⟨b, 0, none⟩), .int .i64 t.wd] (tookW w t 2) fun e w' => e = .returned (.string (str (x.text t.wd).1)) ∧ TookAt B se w w' S b (x.text t.wd).2 t (zeroT 2) :=
    (text_ok (G.ext (tookW_ext w t 2)) (h.ext (tookW_ext w t 2)) t.wd ht.wd2).mono (by rintro e w' ⟨rfl, a, u⟩; exact ⟨rfl, TookAt.of G h a u⟩)
  have HC := Lib.hid C
  have HB := Lib.hid (tookB_blk w t)
  have HSZ := Lib.hid (thing_size' (zeroT 2) rfl)
  have HF := Lib.hid (show 0 + (thingCells (zeroT 2)).length ≤ (thingCells (zeroT 0)).length by rw [thingCells_len _ rfl, thingCells_len _ rfl]; decide)
  have H1 := Lib.hid (one_cells (zeroT 2))
  have hsz : (thingCells t).toArray.size = 37 := by rw [List.size_toArray]; exact thingCells_len t ht.h
  clear G h E hk ht C
  go_enter Tryd.func31, Tryd.ntmps31
  go_wp2_with fail
  refine R.mono ?_
  rintro e w1 ⟨rfl, rfl⟩
  clear R
  go_wp2_with (refine wpList_storeAgg rfl 36 _ _ rfl (w.heap.size + 1 + 1) 0 rfl (thingCells (zeroT 2)) rfl HSZ.out (thingCells (zeroT 0)) 36 HB.out HF.out H1.out ?_)
  rw [over_thing _ _ rfl rfl]
  refine HC.out.mono ?_
  rintro e w2 ⟨rfl, T⟩
  clear c1 c3 HC HB HSZ HF H1
  have y2 : (thingCells (zeroT 2)).toArray.setIfInBounds 4 (.string (str (x.text t.wd).1)) = (thingCells { zeroT 2 with t := str (x.text t.wd).1 }).toArray := rfl
  have T2 := T.set 4 _ y2
  have c3 := cell_of_blk T.b0 3
  have k2 : w2.cell? ⟨w.heap.size + 1 + 1, 2, none⟩ = some (.int .u64 0) := cell_of_blk T.b2 2
  have k3 : w2.cell? ⟨w.heap.size + 1 + 1, 4, none⟩ = some (.string ⟨#[]⟩) := cell_of_blk T.b2 4
  have f2 : w2.frozen? ⟨w.heap.size + 1 + 1, 2, none⟩ = false := free_of_blk T.b2 2
  have f3 : w2.frozen? ⟨w.heap.size + 1 + 1, 4, none⟩ = false := free_of_blk T.b2 4
  have d3 : w2.cell? ⟨w.heap.size, 3, none⟩ = some (.int .i64 t.wd) := c3
  clear c3 T
  generalize hy : ({ zeroT 2 with t := str (x.text t.wd).1 } : ThingD) = yy at T2 ⊢
  have HYL : yy.h.length = 32 := by rw [← hy]; rfl
  have HYE := Lib.hid hy
  clear hy y2
  have HT := Lib.hid T2
  have HO := Lib.hid T2.out
  have HL := Lib.hid (fun (j : Nat) (v : Value) (hv : (thingCells yy)[j]? = some v) => show World.cell? _ ⟨w.heap.size + 1 + 1, 0 + j, none⟩ = some v from by rw [cell_of_blk T2.b2]; simpa using hv)
  have HSZ := Lib.hid (thing_size' yy HYL)
  have HF := Lib.hid (show 0 + (thingCells yy).length ≤ (thingCells (zeroT 0)).length by rw [thingCells_len _ HYL, thingCells_len _ rfl]; decide)
  have H1 := Lib.hid (one_cells yy)
  have HOV := Lib.hid (over_thing (zeroT 0) yy rfl HYL)
  have HZ := Lib.hid (fun cs => blk_setRow T2.b1 cs)
  have HYS := Lib.hid HYL
  clear T2 HYL
  go_wp2_with (first
    | (refine wpList_loadAgg rfl 36 _ rfl (w.heap.size + 1 + 1) 0 rfl (thingCells yy) Tryd.underlying36 rfl HSZ.out HL.out ?_)
    | (refine wpList_storeAgg rfl 36 _ _ rfl (w.heap.size + 1) 0 rfl (thingCells yy) rfl HSZ.out (thingCells (zeroT 0)) 36 HT.out.b1 HF.out H1.out ?_))
  rw [HOV.out]
  refine bodyPost_ret (v := .agg (thingCells yy).toArray) (results_cell_row rfl _ _ (w.heap.size + 1) 36 (thingCells yy).toArray (0, 0) _ rfl (HZ.out _) Tryd.underlying36 rfl (by have := HSZ.out; simpa using this)) rfl ⟨congrArg (fun z => Ending.returned (.agg (thingCells z).toArray)) HYE.out.symm, HO.out _⟩
theorem over_h (x : ThingD) (hs : List UInt8) (hx : x.h.length = 32) (hl : hs.length = 32) : over (thingCells x) 5 (hs.map u8v) = thingCells { x with h := hs } := by
  have e : (thingCells x).drop (5 + (hs.map u8v).length) = [] := List.drop_eq_nil_of_le (by rw [thingCells_len x hx, List.length_map, hl]; decide)
  unfold over
  rw [e, List.append_nil]
  rfl
theorem one_h (l : List UInt8) : ∀ u ∈ l.map u8v, u.oneCell' = true := by
  intro u hu; obtain ⟨q, _, rfl⟩ := List.mem_map.1 hu; rfl
set_option maxRecDepth 8000 in
set_option maxHeartbeats 1000000 in
theorem took_3 {B b : Nat} {se : Nat → Addr} {w : World} {S : Nat → Prop} {x : RdD} (G : Genv B se w) (h : Reader B se w S b x) (t : ThingD) (ht : t.Ok) (hk : t.kind % 4 = 3) :
    Calls Tryd.prog 31 #[.pointer (some ⟨b, 0, none⟩), .agg (thingCells t).toArray] w fun e w' => e = .returned (.agg (thingCells (tookD x t).1).toArray) ∧ Reader B se w' (plus S w.heap.size w'.heap.size) b (tookD x t).2 ∧ Upd (one b) w w' := by
  have E : tookD x t = ({ zeroT 3 with h := x.hash.1 }, x.hash.2) := by unfold tookD; rw [if_neg (by omega), if_neg (by omega), if_neg (by omega)]
  rw [E]
  have R := round_any t.kind (tookA w t) ht.kind1 ht.kind2
  rw [hk] at R
  have c1 := tookA_c1 w t
  have c3 := tookW_c w t 3
  have C : Calls Tryd.prog 56 #[.pointer (some ⟨b, 0, none⟩)] (tookW w t 3) fun e w' => e = .returned (.agg (x.hash.1.map u8v).toArray) ∧ TookAt B se w w' S b x.hash.2 t (zeroT 3) :=
    (hash_ok (G.ext (tookW_ext w t 3)) (h.ext (tookW_ext w t 3))).mono (by rintro e w' ⟨rfl, a, u⟩; exact ⟨rfl, TookAt.of G h a u⟩)
  have HC := Lib.hid C
  have HB := Lib.hid (tookB_blk w t)
  have HSZ := Lib.hid (thing_size' (zeroT 3) rfl)
  have HF := Lib.hid (show 0 + (thingCells (zeroT 3)).length ≤ (thingCells (zeroT 0)).length by rw [thingCells_len _ rfl, thingCells_len _ rfl]; decide)
  have H1 := Lib.hid (one_cells (zeroT 3))
  have hsz : (thingCells t).toArray.size = 37 := by rw [List.size_toArray]; exact thingCells_len t ht.h
  clear G h E hk ht C
  go_enter Tryd.func31, Tryd.ntmps31
  go_wp2_with fail
  refine R.mono ?_
  rintro e w1 ⟨rfl, rfl⟩
  clear R
  go_wp2_with (refine wpList_storeAgg rfl 36 _ _ rfl (w.heap.size + 1 + 1) 0 rfl (thingCells (zeroT 3)) rfl HSZ.out (thingCells (zeroT 0)) 36 HB.out HF.out H1.out ?_)
  rw [over_thing _ _ rfl rfl]
  refine HC.out.mono ?_
  rintro e w2 ⟨rfl, T⟩
  clear c1 c3 HC HB HSZ HF H1
  have T2 := T.row (over (thingCells (zeroT 3)) 5 (x.hash.1.map u8v)).toArray (by rw [over_h _ _ rfl (hash_len x)])
  have HB3 := Lib.hid T.b2
  have HSZ3 := Lib.hid (show (Tryd.prog.info? 34).map (·.size) = some (x.hash.1.map u8v).length by rw [List.length_map, hash_len]; exact hash_size')
  have HF3 := Lib.hid (show 5 + (x.hash.1.map u8v).length ≤ (thingCells (zeroT 3)).length by rw [List.length_map, hash_len, thingCells_len _ rfl]; decide)
  have H13 := Lib.hid (one_h x.hash.1)
  have c3 := cell_of_blk T.b0 3
  have d3 : w2.cell? ⟨w.heap.size, 3, none⟩ = some (.int .i64 t.wd) := c3
  clear c3 T
  generalize hy : ({ zeroT 3 with h := x.hash.1 } : ThingD) = yy at T2 ⊢
  have HYL : yy.h.length = 32 := by rw [← hy]; exact hash_len x
  have HYE := Lib.hid hy
  clear hy
  have HT := Lib.hid T2
  have HO := Lib.hid T2.out
  have HL := Lib.hid (fun (j : Nat) (v : Value) (hv : (thingCells yy)[j]? = some v) => show World.cell? _ ⟨w.heap.size + 1 + 1, 0 + j, none⟩ = some v from by rw [cell_of_blk T2.b2]; simpa using hv)
  have HSZ := Lib.hid (thing_size' yy HYL)
  have HF := Lib.hid (show 0 + (thingCells yy).length ≤ (thingCells (zeroT 0)).length by rw [thingCells_len _ HYL, thingCells_len _ rfl]; decide)
  have H1 := Lib.hid (one_cells yy)
  have HOV := Lib.hid (over_thing (zeroT 0) yy rfl HYL)
  have HZ := Lib.hid (fun cs => blk_setRow T2.b1 cs)
  have HYS := Lib.hid HYL
  clear T2 HYL
  go_wp2_with (first
    | (refine wpList_storeAgg rfl 34 _ _ rfl (w.heap.size + 1 + 1) 5 rfl (x.hash.1.map u8v) rfl HSZ3.out (thingCells (zeroT 3)) 36 HB3.out HF3.out H13.out ?_)
    | (refine wpList_loadAgg rfl 36 _ rfl (w.heap.size + 1 + 1) 0 rfl (thingCells yy) Tryd.underlying36 rfl HSZ.out HL.out ?_)
    | (refine wpList_storeAgg rfl 36 _ _ rfl (w.heap.size + 1) 0 rfl (thingCells yy) rfl HSZ.out (thingCells (zeroT 0)) 36 HT.out.b1 HF.out H1.out ?_))
  rw [HOV.out]
  refine bodyPost_ret (v := .agg (thingCells yy).toArray) (results_cell_row rfl _ _ (w.heap.size + 1) 36 (thingCells yy).toArray (0, 0) _ rfl (HZ.out _) Tryd.underlying36 rfl (by have := HSZ.out; simpa using this)) rfl ⟨congrArg (fun z => Ending.returned (.agg (thingCells z).toArray)) HYE.out.symm, HO.out _⟩
/-- took: the answer of a read. -/
theorem took_ok {B b : Nat} {se : Nat → Addr} {w : World} {S : Nat → Prop} {x : RdD} (G : Genv B se w) (h : Reader B se w S b x) (t : ThingD) (ht : t.Ok) :
    Calls Tryd.prog 31 #[.pointer (some ⟨b, 0, none⟩), .agg (thingCells t).toArray] w fun e w' => e = .returned (.agg (thingCells (tookD x t).1).toArray) ∧ Reader B se w' (plus S w.heap.size w'.heap.size) b (tookD x t).2 ∧ Upd (one b) w w' := by
  rcases kinds t with hk | hk | hk | hk
  · exact took_0 G h t ht hk
  · exact took_1 G h t ht hk
  · exact took_2 G h t ht hk
  · exact took_3 G h t ht hk
theorem OwnR.took {n : Nat} {se : Nat → Addr} {w w1 : World} {b : Nat} {x : RdD} (h : OwnR n se w w1 b x) (t : ThingD) (ht : t.Ok) :
    Calls Tryd.prog 31 #[.pointer (some ⟨b, 0, none⟩), .agg (thingCells t).toArray] w1 fun e w' => e = .returned (.agg (thingCells (tookD x t).1).toArray) ∧ OwnR n se w w' b (tookD x t).2 :=
  (took_ok h.g h.r t ht).mono (by rintro e w' ⟨rfl, a, u⟩; exact ⟨rfl, h.step a u⟩)
end Go.Proofs.YtkabomkikbdigaaDoor
