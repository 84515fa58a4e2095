/- cartularyref27.set by a contract. cartularyref27.DecodeQuery by a contract: the query and the error that wire's DecodeQuery gives. cartularyref27.DecodeQuery where the first two bytes are good. cartularyref27.DecodeQuery: a query with leaves; any bytes. -/
import Derived.Test.YtljnhelnmnomoaaGreatDoorRefQ
import Derived.Test.YtljnhelnmnomoaaGreatDoorQAt
import Derived.Test.YtljnhelnmnomoaaGreatDoorRefr
import Derived.Test.YtljnhelnmnomoaaGreatDoorBackPlain
import Derived.Test.YtljnhelnmnomoaaGreatDoorTyped
namespace Go.Proofs.YtljnhelnmnomoaaGreatDoor
open Go.RowKit Go.Lib


theorem resSet (tmps : Array Value) (w : World) (g : Nat) (cs : Array Value) (hp : tmps.getD 6 undef = .pointer (some ⟨g, 0, none⟩)) (hg : w.heap[g]? = some (.cells cs 27 (0, 0))) (hs : cs.size = 8) :
    (results Tryz.f45 tmps).run Tryz.prog w = .ok (.agg cs) w :=
  results_cell_row rfl tmps w g 27 cs (0, 0) _ hp hg Tryz.underlying27 rfl (by rw [hs]; exact qry_size)
theorem set_idx (q : QryD) (v : Value) (i n : Nat) (h : i < 5) : ((qCells q v).toArray.setIfInBounds (i + 2) (.int .u64 n)) = (qCells (setQ q i n) v).toArray := (set_num q v i n h).1
theorem idxL_lt (c : UInt8) : idxL c < 5 := by unfold idxL; split <;> (try split) <;> (try split) <;> (try split) <;> omega
set_option maxRecDepth 8000 in
set_option maxHeartbeats 2000000 in
theorem refSet_any (q : QryD) (a : Option Addr) (m ca : Nat) (c : UInt8) (n : Nat) (w : World) : Calls Tryz.prog 45 #[.agg (qCells q (.slice a m ca)).toArray, .int .u8 (c.toNat : Int), .int .u64 n] w fun e w' => e = .returned (.agg (qCells (setQ q (idxL c) n) (.slice a m ca)).toArray) ∧ Ext w w' := by
  have X := ((Upd.refl none' w).alloc (.cells (qCells q (.slice a m ca)).toArray 27)).alloc (.cells zeroQry.toArray 27)
  have hb := blk_alloc_lt (blk_alloc w (.cells (qCells q (.slice a m ca)).toArray 27)) (.cells zeroQry.toArray 27)
  have hz := blk_alloc (w.alloc (.cells (qCells q (.slice a m ca)).toArray 27)) (.cells zeroQry.toArray 27)
  rw [World.size_alloc] at hz
  have hk : ∀ k : UInt8, ((c.toNat : Int) == (k.toNat : Int)) = decide (c = k) := fun k => by
    rw [Bool.eq_iff_iff]
    simp only [beq_iff_eq, decide_eq_true_eq]
    exact ⟨fun e => UInt8.toNat_inj.1 (by omega), fun e => by rw [e]⟩
  have k83 := hk 83
  have k73 := hk 73
  have k79 := hk 79
  have k66 := hk 66
  simp only [show (83 : UInt8).toNat = 83 from rfl, show (73 : UInt8).toNat = 73 from rfl, show (79 : UInt8).toNat = 79 from rfl, show (66 : UInt8).toNat = 66 from rfl] at k83 k73 k79 k66
  clear hk
  by_cases h83 : c = 83
  · have HC := Lib.hid (show idxL c = 0 by rw [h83]; rfl)
    rw [decide_eq_true h83] at k83
    clear h83 k73 k79 k66
    have hb2 := blk_alloc_lt (blk_alloc w (.cells #[.int .u8 q.kind, .int .u8 q.engine, .int .u64 n, .int .u64 q.index, .int .u64 q.old, .int .u64 q.bgn, .int .u64 q.fin, .slice a m ca] 27)) (.cells zeroQry.toArray 27)
    have hz2 := blk_alloc (w.alloc (.cells #[.int .u8 q.kind, .int .u8 q.engine, .int .u64 n, .int .u64 q.index, .int .u64 q.old, .int .u64 q.bgn, .int .u64 q.fin, .slice a m ca] 27)) (.cells zeroQry.toArray 27)
    have hu2 := ((Upd.refl none' w).alloc (.cells #[.int .u8 q.kind, .int .u8 q.engine, .int .u64 n, .int .u64 q.index, .int .u64 q.old, .int .u64 q.bgn, .int .u64 q.fin, .slice a m ca] 27)).alloc (.cells zeroQry.toArray 27)
    rw [World.size_alloc] at hz2
    simp only [zeroQry] at hb2 hz2 hu2
    simp only [qCells] at ⊢
    have HL := Lib.hid (fun (j : Nat) (u : Value) (hu : ([.int .u8 q.kind, .int .u8 q.engine, .int .u64 n, .int .u64 q.index, .int .u64 q.old, .int .u64 q.bgn, .int .u64 q.fin, .slice a m ca] : List Value)[j]? = some u) => show World.cell? _ ⟨w.heap.size, 0 + j, none⟩ = some u from by rw [cell_of_blk hb2]; simpa using hu)
    have HZ2 := Lib.hid hz2
    have hF := Lib.hid (blk_setRow hz2 #[.int .u8 q.kind, .int .u8 q.engine, .int .u64 n, .int .u64 q.index, .int .u64 q.old, .int .u64 q.bgn, .int .u64 q.fin, .slice a m ca])
    have HU := Lib.hid (hu2.setRow (g := w.heap.size + 1) (.inl (by omega)) #[.int .u8 q.kind, .int .u8 q.engine, .int .u64 n, .int .u64 q.index, .int .u64 q.old, .int .u64 q.bgn, .int .u64 q.fin, .slice a m ca])
    have HO := Lib.hid (qry_one (setQ q 0 n) (.slice a m ca) rfl)
    clear X hb hz hb2 hz2 hu2
    go_enter Tryz.func45, Tryz.ntmps45
    go_wp2_with (first
      | (refine wpList_loadAgg rfl 27 _ rfl w.heap.size 0 rfl [.int .u8 q.kind, .int .u8 q.engine, .int .u64 n, .int .u64 q.index, .int .u64 q.old, .int .u64 q.bgn, .int .u64 q.fin, .slice a m ca] Tryz.underlying27 rfl qry_size HL.out ?_)
      | (refine store_whole rfl 27 _ _ rfl (w.heap.size + 1) rfl [.int .u8 q.kind, .int .u8 q.engine, .int .u64 n, .int .u64 q.index, .int .u64 q.old, .int .u64 q.bgn, .int .u64 q.fin, .slice a m ca] rfl qry_size zeroQry 27 HZ2.out rfl HO.out ?_))
    exact bodyPost_ret (v := .agg #[.int .u8 q.kind, .int .u8 q.engine, .int .u64 n, .int .u64 q.index, .int .u64 q.old, .int .u64 q.bgn, .int .u64 q.fin, .slice a m ca]) (resSet _ _ (w.heap.size + 1) _ rfl hF.out rfl) rfl ⟨by rw [HC.out]; rfl, HU.out⟩
  rw [decide_eq_false h83] at k83
  by_cases h73 : c = 73
  · have HC := Lib.hid (show idxL c = 1 by rw [h73]; rfl)
    rw [decide_eq_true h73] at k73
    clear h83 h73 k79 k66
    have hb2 := blk_alloc_lt (blk_alloc w (.cells #[.int .u8 q.kind, .int .u8 q.engine, .int .u64 q.size, .int .u64 n, .int .u64 q.old, .int .u64 q.bgn, .int .u64 q.fin, .slice a m ca] 27)) (.cells zeroQry.toArray 27)
    have hz2 := blk_alloc (w.alloc (.cells #[.int .u8 q.kind, .int .u8 q.engine, .int .u64 q.size, .int .u64 n, .int .u64 q.old, .int .u64 q.bgn, .int .u64 q.fin, .slice a m ca] 27)) (.cells zeroQry.toArray 27)
    have hu2 := ((Upd.refl none' w).alloc (.cells #[.int .u8 q.kind, .int .u8 q.engine, .int .u64 q.size, .int .u64 n, .int .u64 q.old, .int .u64 q.bgn, .int .u64 q.fin, .slice a m ca] 27)).alloc (.cells zeroQry.toArray 27)
    rw [World.size_alloc] at hz2
    simp only [zeroQry] at hb2 hz2 hu2
    simp only [qCells] at ⊢
    have HL := Lib.hid (fun (j : Nat) (u : Value) (hu : ([.int .u8 q.kind, .int .u8 q.engine, .int .u64 q.size, .int .u64 n, .int .u64 q.old, .int .u64 q.bgn, .int .u64 q.fin, .slice a m ca] : List Value)[j]? = some u) => show World.cell? _ ⟨w.heap.size, 0 + j, none⟩ = some u from by rw [cell_of_blk hb2]; simpa using hu)
    have HZ2 := Lib.hid hz2
    have hF := Lib.hid (blk_setRow hz2 #[.int .u8 q.kind, .int .u8 q.engine, .int .u64 q.size, .int .u64 n, .int .u64 q.old, .int .u64 q.bgn, .int .u64 q.fin, .slice a m ca])
    have HU := Lib.hid (hu2.setRow (g := w.heap.size + 1) (.inl (by omega)) #[.int .u8 q.kind, .int .u8 q.engine, .int .u64 q.size, .int .u64 n, .int .u64 q.old, .int .u64 q.bgn, .int .u64 q.fin, .slice a m ca])
    have HO := Lib.hid (qry_one (setQ q 1 n) (.slice a m ca) rfl)
    clear X hb hz hb2 hz2 hu2
    go_enter Tryz.func45, Tryz.ntmps45
    go_wp2_with (first
      | (refine wpList_loadAgg rfl 27 _ rfl w.heap.size 0 rfl [.int .u8 q.kind, .int .u8 q.engine, .int .u64 q.size, .int .u64 n, .int .u64 q.old, .int .u64 q.bgn, .int .u64 q.fin, .slice a m ca] Tryz.underlying27 rfl qry_size HL.out ?_)
      | (refine store_whole rfl 27 _ _ rfl (w.heap.size + 1) rfl [.int .u8 q.kind, .int .u8 q.engine, .int .u64 q.size, .int .u64 n, .int .u64 q.old, .int .u64 q.bgn, .int .u64 q.fin, .slice a m ca] rfl qry_size zeroQry 27 HZ2.out rfl HO.out ?_))
    exact bodyPost_ret (v := .agg #[.int .u8 q.kind, .int .u8 q.engine, .int .u64 q.size, .int .u64 n, .int .u64 q.old, .int .u64 q.bgn, .int .u64 q.fin, .slice a m ca]) (resSet _ _ (w.heap.size + 1) _ rfl hF.out rfl) rfl ⟨by rw [HC.out]; rfl, HU.out⟩
  rw [decide_eq_false h73] at k73
  by_cases h79 : c = 79
  · have HC := Lib.hid (show idxL c = 2 by rw [h79]; rfl)
    rw [decide_eq_true h79] at k79
    clear h83 h73 h79 k66
    have hb2 := blk_alloc_lt (blk_alloc w (.cells #[.int .u8 q.kind, .int .u8 q.engine, .int .u64 q.size, .int .u64 q.index, .int .u64 n, .int .u64 q.bgn, .int .u64 q.fin, .slice a m ca] 27)) (.cells zeroQry.toArray 27)
    have hz2 := blk_alloc (w.alloc (.cells #[.int .u8 q.kind, .int .u8 q.engine, .int .u64 q.size, .int .u64 q.index, .int .u64 n, .int .u64 q.bgn, .int .u64 q.fin, .slice a m ca] 27)) (.cells zeroQry.toArray 27)
    have hu2 := ((Upd.refl none' w).alloc (.cells #[.int .u8 q.kind, .int .u8 q.engine, .int .u64 q.size, .int .u64 q.index, .int .u64 n, .int .u64 q.bgn, .int .u64 q.fin, .slice a m ca] 27)).alloc (.cells zeroQry.toArray 27)
    rw [World.size_alloc] at hz2
    simp only [zeroQry] at hb2 hz2 hu2
    simp only [qCells] at ⊢
    have HL := Lib.hid (fun (j : Nat) (u : Value) (hu : ([.int .u8 q.kind, .int .u8 q.engine, .int .u64 q.size, .int .u64 q.index, .int .u64 n, .int .u64 q.bgn, .int .u64 q.fin, .slice a m ca] : List Value)[j]? = some u) => show World.cell? _ ⟨w.heap.size, 0 + j, none⟩ = some u from by rw [cell_of_blk hb2]; simpa using hu)
    have HZ2 := Lib.hid hz2
    have hF := Lib.hid (blk_setRow hz2 #[.int .u8 q.kind, .int .u8 q.engine, .int .u64 q.size, .int .u64 q.index, .int .u64 n, .int .u64 q.bgn, .int .u64 q.fin, .slice a m ca])
    have HU := Lib.hid (hu2.setRow (g := w.heap.size + 1) (.inl (by omega)) #[.int .u8 q.kind, .int .u8 q.engine, .int .u64 q.size, .int .u64 q.index, .int .u64 n, .int .u64 q.bgn, .int .u64 q.fin, .slice a m ca])
    have HO := Lib.hid (qry_one (setQ q 2 n) (.slice a m ca) rfl)
    clear X hb hz hb2 hz2 hu2
    go_enter Tryz.func45, Tryz.ntmps45
    go_wp2_with (first
      | (refine wpList_loadAgg rfl 27 _ rfl w.heap.size 0 rfl [.int .u8 q.kind, .int .u8 q.engine, .int .u64 q.size, .int .u64 q.index, .int .u64 n, .int .u64 q.bgn, .int .u64 q.fin, .slice a m ca] Tryz.underlying27 rfl qry_size HL.out ?_)
      | (refine store_whole rfl 27 _ _ rfl (w.heap.size + 1) rfl [.int .u8 q.kind, .int .u8 q.engine, .int .u64 q.size, .int .u64 q.index, .int .u64 n, .int .u64 q.bgn, .int .u64 q.fin, .slice a m ca] rfl qry_size zeroQry 27 HZ2.out rfl HO.out ?_))
    exact bodyPost_ret (v := .agg #[.int .u8 q.kind, .int .u8 q.engine, .int .u64 q.size, .int .u64 q.index, .int .u64 n, .int .u64 q.bgn, .int .u64 q.fin, .slice a m ca]) (resSet _ _ (w.heap.size + 1) _ rfl hF.out rfl) rfl ⟨by rw [HC.out]; rfl, HU.out⟩
  rw [decide_eq_false h79] at k79
  by_cases h66 : c = 66
  · have HC := Lib.hid (show idxL c = 3 by rw [h66]; rfl)
    rw [decide_eq_true h66] at k66
    clear h83 h73 h79 h66 
    have hb2 := blk_alloc_lt (blk_alloc w (.cells #[.int .u8 q.kind, .int .u8 q.engine, .int .u64 q.size, .int .u64 q.index, .int .u64 q.old, .int .u64 n, .int .u64 q.fin, .slice a m ca] 27)) (.cells zeroQry.toArray 27)
    have hz2 := blk_alloc (w.alloc (.cells #[.int .u8 q.kind, .int .u8 q.engine, .int .u64 q.size, .int .u64 q.index, .int .u64 q.old, .int .u64 n, .int .u64 q.fin, .slice a m ca] 27)) (.cells zeroQry.toArray 27)
    have hu2 := ((Upd.refl none' w).alloc (.cells #[.int .u8 q.kind, .int .u8 q.engine, .int .u64 q.size, .int .u64 q.index, .int .u64 q.old, .int .u64 n, .int .u64 q.fin, .slice a m ca] 27)).alloc (.cells zeroQry.toArray 27)
    rw [World.size_alloc] at hz2
    simp only [zeroQry] at hb2 hz2 hu2
    simp only [qCells] at ⊢
    have HL := Lib.hid (fun (j : Nat) (u : Value) (hu : ([.int .u8 q.kind, .int .u8 q.engine, .int .u64 q.size, .int .u64 q.index, .int .u64 q.old, .int .u64 n, .int .u64 q.fin, .slice a m ca] : List Value)[j]? = some u) => show World.cell? _ ⟨w.heap.size, 0 + j, none⟩ = some u from by rw [cell_of_blk hb2]; simpa using hu)
    have HZ2 := Lib.hid hz2
    have hF := Lib.hid (blk_setRow hz2 #[.int .u8 q.kind, .int .u8 q.engine, .int .u64 q.size, .int .u64 q.index, .int .u64 q.old, .int .u64 n, .int .u64 q.fin, .slice a m ca])
    have HU := Lib.hid (hu2.setRow (g := w.heap.size + 1) (.inl (by omega)) #[.int .u8 q.kind, .int .u8 q.engine, .int .u64 q.size, .int .u64 q.index, .int .u64 q.old, .int .u64 n, .int .u64 q.fin, .slice a m ca])
    have HO := Lib.hid (qry_one (setQ q 3 n) (.slice a m ca) rfl)
    clear X hb hz hb2 hz2 hu2
    go_enter Tryz.func45, Tryz.ntmps45
    go_wp2_with (first
      | (refine wpList_loadAgg rfl 27 _ rfl w.heap.size 0 rfl [.int .u8 q.kind, .int .u8 q.engine, .int .u64 q.size, .int .u64 q.index, .int .u64 q.old, .int .u64 n, .int .u64 q.fin, .slice a m ca] Tryz.underlying27 rfl qry_size HL.out ?_)
      | (refine store_whole rfl 27 _ _ rfl (w.heap.size + 1) rfl [.int .u8 q.kind, .int .u8 q.engine, .int .u64 q.size, .int .u64 q.index, .int .u64 q.old, .int .u64 n, .int .u64 q.fin, .slice a m ca] rfl qry_size zeroQry 27 HZ2.out rfl HO.out ?_))
    exact bodyPost_ret (v := .agg #[.int .u8 q.kind, .int .u8 q.engine, .int .u64 q.size, .int .u64 q.index, .int .u64 q.old, .int .u64 n, .int .u64 q.fin, .slice a m ca]) (resSet _ _ (w.heap.size + 1) _ rfl hF.out rfl) rfl ⟨by rw [HC.out]; rfl, HU.out⟩
  rw [decide_eq_false h66] at k66
  have HC := Lib.hid (show idxL c = 4 by unfold idxL; rw [if_neg h83, if_neg h73, if_neg h79, if_neg h66])
  clear h83 h73 h79 h66
  have hb2 := blk_alloc_lt (blk_alloc w (.cells #[.int .u8 q.kind, .int .u8 q.engine, .int .u64 q.size, .int .u64 q.index, .int .u64 q.old, .int .u64 q.bgn, .int .u64 n, .slice a m ca] 27)) (.cells zeroQry.toArray 27)
  have hz2 := blk_alloc (w.alloc (.cells #[.int .u8 q.kind, .int .u8 q.engine, .int .u64 q.size, .int .u64 q.index, .int .u64 q.old, .int .u64 q.bgn, .int .u64 n, .slice a m ca] 27)) (.cells zeroQry.toArray 27)
  have hu2 := ((Upd.refl none' w).alloc (.cells #[.int .u8 q.kind, .int .u8 q.engine, .int .u64 q.size, .int .u64 q.index, .int .u64 q.old, .int .u64 q.bgn, .int .u64 n, .slice a m ca] 27)).alloc (.cells zeroQry.toArray 27)
  rw [World.size_alloc] at hz2
  simp only [zeroQry] at hb2 hz2 hu2
  simp only [qCells] at ⊢
  have HL := Lib.hid (fun (j : Nat) (u : Value) (hu : ([.int .u8 q.kind, .int .u8 q.engine, .int .u64 q.size, .int .u64 q.index, .int .u64 q.old, .int .u64 q.bgn, .int .u64 n, .slice a m ca] : List Value)[j]? = some u) => show World.cell? _ ⟨w.heap.size, 0 + j, none⟩ = some u from by rw [cell_of_blk hb2]; simpa using hu)
  have HZ2 := Lib.hid hz2
  have hF := Lib.hid (blk_setRow hz2 #[.int .u8 q.kind, .int .u8 q.engine, .int .u64 q.size, .int .u64 q.index, .int .u64 q.old, .int .u64 q.bgn, .int .u64 n, .slice a m ca])
  have HU := Lib.hid (hu2.setRow (g := w.heap.size + 1) (.inl (by omega)) #[.int .u8 q.kind, .int .u8 q.engine, .int .u64 q.size, .int .u64 q.index, .int .u64 q.old, .int .u64 q.bgn, .int .u64 n, .slice a m ca])
  have HO := Lib.hid (qry_one (setQ q 4 n) (.slice a m ca) rfl)
  clear X hb hz hb2 hz2 hu2
  go_enter Tryz.func45, Tryz.ntmps45
  go_wp2_with (first
    | (refine wpList_loadAgg rfl 27 _ rfl w.heap.size 0 rfl [.int .u8 q.kind, .int .u8 q.engine, .int .u64 q.size, .int .u64 q.index, .int .u64 q.old, .int .u64 q.bgn, .int .u64 n, .slice a m ca] Tryz.underlying27 rfl qry_size HL.out ?_)
    | (refine store_whole rfl 27 _ _ rfl (w.heap.size + 1) rfl [.int .u8 q.kind, .int .u8 q.engine, .int .u64 q.size, .int .u64 q.index, .int .u64 q.old, .int .u64 q.bgn, .int .u64 n, .slice a m ca] rfl qry_size zeroQry 27 HZ2.out rfl HO.out ?_))
  exact bodyPost_ret (v := .agg #[.int .u8 q.kind, .int .u8 q.engine, .int .u64 q.size, .int .u64 q.index, .int .u64 q.old, .int .u64 q.bgn, .int .u64 n, .slice a m ca]) (resSet _ _ (w.heap.size + 1) _ rfl hF.out rfl) rfl ⟨by rw [HC.out]; rfl, HU.out⟩

def RefQPost (w : World) (r : QryD × EV) (e : Ending) (w' : World) : Prop :=
  ∃ a cap, e = .returned (.tuple #[.agg (qCells r.1 (.slice a r.1.leaves.length cap)).toArray, efV r.2]) ∧ TextsAt w' a r.1.leaves ∧ Ext w w'
theorem resRD (tmps : Array Value) (w : World) (g h : Nat) (cs fs : Array Value) (hp : tmps.getD 2 undef = .pointer (some ⟨g, 0, none⟩)) (hp2 : tmps.getD 3 undef = .pointer (some ⟨h, 0, none⟩)) (hg : w.heap[g]? = some (.cells cs 27 (0, 0))) (hs : cs.size = 8)
    (hg2 : w.heap[h]? = some (.cells fs 36 (0, 0))) (hs2 : fs.size = 2) :
    (results Tryz.f14 tmps).run Tryz.prog w = .ok (.tuple #[.agg cs, .agg fs]) w := by
  have hp' : tmps[2]?.getD undef = .pointer (some ⟨g, 0, none⟩) := by simpa using hp
  have hp2' : tmps[3]?.getD undef = .pointer (some ⟨h, 0, none⟩) := by simpa using hp2
  have hr : Tryz.f14.results = #[.cell 2 27, .cell 3 36] := rfl
  simp [results, hr, hp', hp2', asAddr, run_loadVar_row w g 27 27 cs (0, 0) _ hg Tryz.underlying27 rfl (by rw [hs]; exact qry_size), run_loadVar_row w h 36 36 fs (0, 0) _ hg2 Tryz.underlying36 rfl (by rw [hs2]; exact fault_size2)]
theorem zeroQry_one : ∀ u ∈ zeroQry, u.oneCell' = true := fun u hu => by
  simp only [zeroQry, List.mem_cons, List.not_mem_nil, or_false] at hu
  rcases hu with rfl | rfl | rfl | rfl | rfl | rfl | rfl | rfl <;> rfl
/-- The two result variables. -/
structure Res2 (w W : World) : Prop where
  ext : Ext w W
  q : W.heap[w.heap.size]? = some (.cells zeroQry.toArray 27 (0, 0))
  f : W.heap[w.heap.size + 1]? = some (.cells #[.int .i64 0, .int .i64 0] 36 (0, 0))
theorem Res2.start (w : World) : Res2 w ((w.alloc (.cells zeroQry.toArray 27)).alloc (.cells #[.int .i64 0, .int .i64 0] 36)) :=
  ⟨((Upd.refl none' w).alloc _).alloc _, blk_alloc_lt (blk_alloc w _) _, by have := blk_alloc (w.alloc (.cells zeroQry.toArray 27)) (.cells #[.int .i64 0, .int .i64 0] 36); rwa [World.size_alloc] at this⟩
theorem Res2.upd {w W W' : World} {S : Nat → Prop} (h : Res2 w W) (u : Upd S W W') (hS : ∀ k, S k → w.heap.size + 2 ≤ k) : Res2 w W' :=
  ⟨⟨(u.os.trans h.ext.os), (u.tape.trans h.ext.tape), (u.output.trans h.ext.output), Nat.le_trans h.ext.size u.size, fun b hb _ => (u.block b (Nat.lt_of_lt_of_le hb h.ext.size) (fun hs => by have := hS b hs; omega)).trans (h.ext.block b hb id)⟩,
   u.blk h.q (fun hs => by have := hS _ hs; omega), u.blk h.f (fun hs => by have := hS _ hs; omega)⟩
theorem Res2.exts {w W W' : World} (h : Res2 w W) (u : Ext W W') : Res2 w W' := h.upd u (fun _ hk => hk.elim)
/-- The two results are stored. -/
structure End2 (w W : World) (cs fs : Array Value) : Prop where
  zq : W.heap[w.heap.size]? = some (.cells zeroQry.toArray 27 (0, 0))
  zf : (W.setRow w.heap.size cs).heap[w.heap.size + 1]? = some (.cells #[.int .i64 0, .int .i64 0] 36 (0, 0))
  q : ((W.setRow w.heap.size cs).setRow (w.heap.size + 1) fs).heap[w.heap.size]? = some (.cells cs 27 (0, 0))
  f : ((W.setRow w.heap.size cs).setRow (w.heap.size + 1) fs).heap[w.heap.size + 1]? = some (.cells fs 36 (0, 0))
  ext : Ext w ((W.setRow w.heap.size cs).setRow (w.heap.size + 1) fs)
theorem Res2.fin {w W : World} (h : Res2 w W) (cs fs : Array Value) : End2 w W cs fs := by
  have hf := blk_setRow_ne h.f (by omega : w.heap.size + 1 ≠ w.heap.size) cs
  have hq := blk_setRow h.q cs
  exact ⟨h.q, hf, blk_setRow_ne hq (by omega : w.heap.size ≠ w.heap.size + 1) fs, blk_setRow hf fs, (h.ext.setRow (g := w.heap.size) (.inl (Nat.le_refl _)) cs).setRow (g := w.heap.size + 1) (.inl (by omega)) fs⟩
set_option maxRecDepth 8000 in
set_option maxHeartbeats 2000000 in
theorem refD_long {w : World} (bs : List UInt8) (h : 1048576 < bs.length) (h2 : bs.length ≤ 9223372036854775807) :
    Calls Tryz.prog 14 #[.string (str bs)] w (RefQPost w (zeroQ, some (4, none))) := by
  have hR := Res2.start w
  simp only [zeroQry] at hR
  have HR := Lib.hid hR
  clear hR
  have CP := fun w1 : World => plain_any 4 w1
  simp only [show ¬ ((4 : Int) = 0) by decide, if_false] at CP
  have hsz : (str bs).size = bs.length := str_size _
  have d1 : (1048576 : Int) < (str bs).size := by omega
  clear h hsz
  generalize str bs = s at *
  go_enter Tryz.func14, Tryz.ntmps14
  go_wp2_with fail
  refine (CP _).mono ?_
  rintro e w1 ⟨rfl, u⟩
  have hE := (HR.out.exts u).fin zeroQry.toArray #[.int .i64 4, .int .i64 (-1)]
  have HE := Lib.hid hE
  clear u hE
  go_wp2_with (first
    | (refine store_whole rfl 27 _ _ rfl w.heap.size rfl zeroQry rfl qry_size zeroQry 27 HE.out.zq rfl zeroQry_one ?_)
    | (refine store_whole rfl 36 _ _ rfl (w.heap.size + 1) rfl [.int .i64 4, .int .i64 (-1)] rfl fault_size2 [.int .i64 0, .int .i64 0] 36 HE.out.zf rfl (fault_one _ _) ?_))
  exact bodyPost_ret (v := .tuple #[.agg zeroQry.toArray, .agg #[.int .i64 4, .int .i64 (-1)]]) (resRD _ _ w.heap.size (w.heap.size + 1) _ _ rfl rfl HE.out.q rfl HE.out.f rfl) rfl ⟨none, 0, rfl, TextsAt.nil _ _, HE.out.ext⟩
set_option maxRecDepth 8000 in
set_option maxHeartbeats 2000000 in
theorem refD_empty {w : World} (bs : List UInt8) (h : bs = []) :
    Calls Tryz.prog 14 #[.string (str bs)] w (RefQPost w (zeroQ, some (3, some 0))) := by
  have hR := Res2.start w
  simp only [zeroQry] at hR
  have HR := Lib.hid hR
  clear hR
  have CP := fun w1 : World => placed_any 3 0 w1
  subst h
  go_enter Tryz.func14, Tryz.ntmps14
  go_wp2_with fail
  refine (CP _).mono ?_
  rintro e w1 ⟨rfl, u⟩
  have hE := (HR.out.exts u).fin zeroQry.toArray #[.int .i64 3, .int .i64 (0)]
  have HE := Lib.hid hE
  clear u hE
  go_wp2_with (first
    | (refine store_whole rfl 27 _ _ rfl w.heap.size rfl zeroQry rfl qry_size zeroQry 27 HE.out.zq rfl zeroQry_one ?_)
    | (refine store_whole rfl 36 _ _ rfl (w.heap.size + 1) rfl [.int .i64 3, .int .i64 (0)] rfl fault_size2 [.int .i64 0, .int .i64 0] 36 HE.out.zf rfl (fault_one _ _) ?_))
  exact bodyPost_ret (v := .tuple #[.agg zeroQry.toArray, .agg #[.int .i64 3, .int .i64 (0)]]) (resRD _ _ w.heap.size (w.heap.size + 1) _ _ rfl rfl HE.out.q rfl HE.out.f rfl) rfl ⟨none, 0, rfl, TextsAt.nil _ _, HE.out.ext⟩
set_option maxRecDepth 8000 in
set_option maxHeartbeats 2000000 in
theorem refD_kind {w : World} (bs : List UInt8) (hl : bs.length ≤ 1048576) (c : UInt8) (l : List UInt8) (hbs : bs = c :: l) (hk : okQ c.toNat = false) :
    Calls Tryz.prog 14 #[.string (str bs)] w (RefQPost w (zeroQ, some (3, some 0))) := by
  have hR := Res2.start w
  simp only [zeroQry] at hR
  have HR := Lib.hid hR
  clear hR
  have CP := fun w1 : World => placed_any 3 0 w1
  have CF := fun w1 => fields_any c.toNat w1
  rw [hk] at CF
  subst hbs
  have hl2 : l.length + 1 ≤ 1048576 := by simpa using hl
  have d1 : ¬ (1048576 : Int) < (l.length : Int) + 1 := by omega
  have d2 : (((l.length : Int) + 1) == 0) = false := by rw [beq_eq_false_iff_ne]; omega
  clear hk hl hl2
  go_enter Tryz.func14, Tryz.ntmps14
  go_wp2_with fail
  refine (CF _).mono ?_
  rintro e w1 ⟨rfl, rfl⟩
  go_wp2_with fail
  refine (CP _).mono ?_
  rintro e w1 ⟨rfl, u⟩
  have HR := Lib.hid (HR.out.exts ((Upd.refl none' _).alloc (.cells #[.int .u8 (c.toNat : Int), .int .u8 0, .int .u64 0, .int .u64 0, .int .u64 0, .int .u64 0, .int .u64 0, .slice none 0 0] 27)))
  have hE := (HR.out.exts u).fin zeroQry.toArray #[.int .i64 3, .int .i64 (0)]
  have HE := Lib.hid hE
  clear u hE
  go_wp2_with (first
    | (refine store_whole rfl 27 _ _ rfl w.heap.size rfl zeroQry rfl qry_size zeroQry 27 HE.out.zq rfl zeroQry_one ?_)
    | (refine store_whole rfl 36 _ _ rfl (w.heap.size + 1) rfl [.int .i64 3, .int .i64 (0)] rfl fault_size2 [.int .i64 0, .int .i64 0] 36 HE.out.zf rfl (fault_one _ _) ?_))
  exact bodyPost_ret (v := .tuple #[.agg zeroQry.toArray, .agg #[.int .i64 3, .int .i64 (0)]]) (resRD _ _ w.heap.size (w.heap.size + 1) _ _ rfl rfl HE.out.q rfl HE.out.f rfl) rfl ⟨none, 0, rfl, TextsAt.nil _ _, HE.out.ext⟩
set_option maxRecDepth 8000 in
set_option maxHeartbeats 2000000 in
theorem refD_one {w : World} (bs : List UInt8) (c : UInt8) (hbs : bs = [c]) (hk : okQ c.toNat = true) :
    Calls Tryz.prog 14 #[.string (str bs)] w (RefQPost w (zeroQ, some (3, some 1))) := by
  have hR := Res2.start w
  simp only [zeroQry] at hR
  have HR := Lib.hid hR
  clear hR
  have CP := fun w1 : World => placed_any 3 1 w1
  have CF := fun w1 => fields_any c.toNat w1
  rw [hk] at CF
  subst hbs
  clear hk
  go_enter Tryz.func14, Tryz.ntmps14
  go_wp2_with fail
  refine (CF _).mono ?_
  rintro e w1 ⟨rfl, rfl⟩
  go_wp2_with fail
  refine (CP _).mono ?_
  rintro e w1 ⟨rfl, u⟩
  have HR := Lib.hid (HR.out.exts ((Upd.refl none' _).alloc (.cells #[.int .u8 (c.toNat : Int), .int .u8 0, .int .u64 0, .int .u64 0, .int .u64 0, .int .u64 0, .int .u64 0, .slice none 0 0] 27)))
  have hE := (HR.out.exts u).fin zeroQry.toArray #[.int .i64 3, .int .i64 (1)]
  have HE := Lib.hid hE
  clear u hE
  go_wp2_with (first
    | (refine store_whole rfl 27 _ _ rfl w.heap.size rfl zeroQry rfl qry_size zeroQry 27 HE.out.zq rfl zeroQry_one ?_)
    | (refine store_whole rfl 36 _ _ rfl (w.heap.size + 1) rfl [.int .i64 3, .int .i64 (1)] rfl fault_size2 [.int .i64 0, .int .i64 0] 36 HE.out.zf rfl (fault_one _ _) ?_))
  exact bodyPost_ret (v := .tuple #[.agg zeroQry.toArray, .agg #[.int .i64 3, .int .i64 (1)]]) (resRD _ _ w.heap.size (w.heap.size + 1) _ _ rfl rfl HE.out.q rfl HE.out.f rfl) rfl ⟨none, 0, rfl, TextsAt.nil _ _, HE.out.ext⟩
set_option maxRecDepth 8000 in
set_option maxHeartbeats 2000000 in
theorem refD_goes {w : World} (bs : List UInt8) (hl : bs.length ≤ 1048576) (c d : UInt8) (l : List UInt8) (hbs : bs = c :: d :: l) (hk : okQ c.toNat = true) (hg : goesB c.toNat d.toNat = false) :
    Calls Tryz.prog 14 #[.string (str bs)] w (RefQPost w (zeroQ, some (3, some 1))) := by
  have hR := Res2.start w
  simp only [zeroQry] at hR
  have HR := Lib.hid hR
  clear hR
  have CP := fun w1 : World => placed_any 3 1 w1
  have CF := fun w1 => fields_any c.toNat w1
  rw [hk] at CF
  have CE := fun w1 => engine_any (askE c.toNat) d.toNat w1
  rw [show (if askE c.toNat then decide (1 ≤ d.toNat) && decide (d.toNat ≤ 3) else decide (d.toNat = 0)) = goesB c.toNat d.toNat from rfl, hg] at CE
  subst hbs
  have hl2 : l.length + 2 ≤ 1048576 := by simpa using hl
  have d1 : ¬ (1048576 : Int) < (l.length : Int) + 1 + 1 := by omega
  have d2 : (((l.length : Int) + 1 + 1) == 0) = false := by rw [beq_eq_false_iff_ne]; omega
  have d3 : (((l.length : Int) + 1 + 1) == 1) = false := by rw [beq_eq_false_iff_ne]; omega
  clear hk hg hl hl2
  go_enter Tryz.func14, Tryz.ntmps14
  go_wp2_with fail
  refine (CF _).mono ?_
  rintro e w1 ⟨rfl, rfl⟩
  go_wp2_with fail
  refine (CE _).mono ?_
  rintro e w1 ⟨rfl, rfl⟩
  go_wp2_with fail
  refine (CP _).mono ?_
  rintro e w1 ⟨rfl, u⟩
  have HR := Lib.hid (HR.out.exts ((Upd.refl none' _).alloc (.cells #[.int .u8 (c.toNat : Int), .int .u8 0, .int .u64 0, .int .u64 0, .int .u64 0, .int .u64 0, .int .u64 0, .slice none 0 0] 27)))
  have hE := (HR.out.exts u).fin zeroQry.toArray #[.int .i64 3, .int .i64 (1)]
  have HE := Lib.hid hE
  clear u hE
  go_wp2_with (first
    | (refine store_whole rfl 27 _ _ rfl w.heap.size rfl zeroQry rfl qry_size zeroQry 27 HE.out.zq rfl zeroQry_one ?_)
    | (refine store_whole rfl 36 _ _ rfl (w.heap.size + 1) rfl [.int .i64 3, .int .i64 (1)] rfl fault_size2 [.int .i64 0, .int .i64 0] 36 HE.out.zf rfl (fault_one _ _) ?_))
  exact bodyPost_ret (v := .tuple #[.agg zeroQry.toArray, .agg #[.int .i64 3, .int .i64 (1)]]) (resRD _ _ w.heap.size (w.heap.size + 1) _ _ rfl rfl HE.out.q rfl HE.out.f rfl) rfl ⟨none, 0, rfl, TextsAt.nil _ _, HE.out.ext⟩

def decL : List UInt8 → QryD → RdD → QryD × RdD
  | [], q, x => (q, x)
  | c :: l, q, x => decL l (setQ q (idxL c) x.var.1) x.var.2
theorem decL_N (k : Nat) (h : askL k = false) (q : QryD) (x : RdD) : decL (letL k) q x = decNums (askN k) q x := by
  rcases (show k = 2 ∨ k = 3 ∨ k = 4 ∨ k = 5 ∨ k = 6 ∨ k = 7 ∨ (k ≠ 2 ∧ k ≠ 3 ∧ k ≠ 4 ∧ k ≠ 5 ∧ k ≠ 6 ∧ k ≠ 7) by omega) with rfl | rfl | rfl | rfl | rfl | rfl | h2
  iterate 5 rfl
  · cases h
  have e1 : letL k = [] := by unfold letL; split <;> first | omega | rfl
  have e2 : askN k = [] := by unfold askN; split <;> first | omega | rfl
  rw [e1, e2]; rfl
theorem decL_drop (l : List UInt8) (j : Nat) (c : UInt8) (h : l[j]? = some c) (q : QryD) (x : RdD) : decL (l.drop j) q x = decL (l.drop (j + 1)) (setQ q (idxL c) x.var.1) x.var.2 := by
  have hj : j < l.length := (List.getElem?_eq_some_iff.1 h).1
  rw [List.drop_eq_getElem_cons hj, (List.getElem?_eq_some_iff.1 h).2]; rfl
theorem setQ_leaves (q : QryD) (i n : Nat) : (setQ q i n).leaves = q.leaves := by unfold setQ; split <;> rfl
theorem let_no (k i : Nat) (c : UInt8) (h : (letL k)[i]? = some c) (hL : askL k = false) : c ≠ 76 := fun e => by
  have := let_get k i c h e
  rw [hL] at this; cases this
/-- What lies in memory while the document's DecodeQuery reads. -/
structure RDt (w W : World) (x : RdD) (q : QryD) (v : Value) : Prop where
  res : Res2 w W
  qb : W.heap[w.heap.size + 2]? = some (.cells (qCells q v).toArray 27 (0, 0))
  rd : RefAt W (w.heap.size + 3) x
  own : W.ownsRow (w.heap.size + 4) 9 1 v q.leaves.length (textCells q.leaves)
section
variable {w W W' : World} {x y : RdD} {q : QryD} {v : Value}
theorem RDt.low (h : RDt w W x q v) : w.heap.size + 4 ≤ W.heap.size := by have := lt_of_blk h.rd.blk; omega
theorem RDt.upd {S : Nat → Prop} (h : RDt w W x q v) (u : Upd S W W') (hS : ∀ k, S k → w.heap.size + 4 ≤ k ∧ v.ownBlock ≠ some k) : RDt w W' x q v :=
  ⟨h.res.upd u (fun k hk => by have := (hS k hk).1; omega), u.blk h.qb (fun hk => by have := (hS _ hk).1; omega), h.rd.upd u (fun hk => by have := (hS _ hk).1; omega), ownsRow_upd h.own u (fun g hg hk => (hS g hk).2 hg)⟩
theorem RDt.ext (h : RDt w W x q v) (u : Ext W W') : RDt w W' x q v := h.upd u (fun _ hk => hk.elim)
theorem RDt.rdr (h : RDt w W x q v) (r : RefAt W' (w.heap.size + 3) y) (u : Upd (one (w.heap.size + 3)) W W') : RDt w W' y q v :=
  ⟨h.res.upd u (fun k hk => by have : k = _ := hk; omega), u.blk h.qb (fun hk => by have : w.heap.size + 2 = w.heap.size + 3 := hk; omega), r, ownsRow_upd h.own u (fun g hg hk => by have := (h.own.lt g hg).1; have : g = _ := hk; omega)⟩
theorem RDt.set (h : RDt w W x q v) (q' : QryD) (hl : q'.leaves = q.leaves) : RDt w (W.setRow (w.heap.size + 2) (qCells q' v).toArray) x q' v := by
  have U : Upd (one (w.heap.size + 2)) W (W.setRow (w.heap.size + 2) (qCells q' v).toArray) := (Upd.refl (one (w.heap.size + 2)) W).setRow (g := w.heap.size + 2) (.inr rfl) _
  refine ⟨h.res.upd U (fun k hk => by have : k = _ := hk; omega), blk_setRow h.qb _, h.rd.upd U (fun hk => by have : w.heap.size + 3 = w.heap.size + 2 := hk; omega), ?_⟩
  rw [hl]
  exact ownsRow_upd h.own U (fun g hg hk => by have := (h.own.lt g hg).1; have : g = _ := hk; omega)
theorem RDt.after (h : RDt w W x q v) (hg : W.grownBy W' v.ownBlock) : W'.heap[w.heap.size + 2]? = some (.cells (qCells q v).toArray 27 (0, 0)) := by
  have U2 : Upd (fun k => v.ownBlock = some k) W W' := (Upd.refl _ W).grown hg (fun k hk => .inr hk)
  exact U2.blk h.qb (fun e => by have := (h.own.lt _ e).1; omega)
theorem RDt.app (h : RDt w W x q v) (t : ByteArray) {v' : Value} (ho : W'.ownsRow (w.heap.size + 4) 9 1 v' (q.leaves.length + 1) (textCells q.leaves ++ [.string t])) (hg : W.grownBy W' v.ownBlock) :
    RDt w (W'.setCell ⟨w.heap.size + 2, 7, none⟩ v') x { q with leaves := q.leaves ++ [t] } v' := by
  have U2 : Upd (fun k => v.ownBlock = some k) W W' := (Upd.refl _ W).grown hg (fun k hk => .inr hk)
  have U3 : Upd (one (w.heap.size + 2)) W' (W'.setCell ⟨w.heap.size + 2, 7, none⟩ v') := (Upd.refl (one _) W').setCell (p := ⟨w.heap.size + 2, 7, none⟩) (.inr rfl) _
  refine ⟨(h.res.upd U2 (fun k hk => by have := (h.own.lt k hk).1; omega)).upd U3 (fun k hk => by have : k = _ := hk; omega), blk_set (h.after hg) 7 v', (h.rd.upd U2 (fun hk => by have := (h.own.lt _ hk).1; omega)).upd U3 (fun hk => by have : w.heap.size + 3 = w.heap.size + 2 := hk; omega), ?_⟩
  have e : textCells (q.leaves ++ [t]) = textCells q.leaves ++ [.string t] := by simp [textCells]
  show World.ownsRow _ _ _ _ _ (q.leaves ++ [t]).length (textCells (q.leaves ++ [t]))
  rw [e, List.length_append]
  exact ownsRow_upd ho U3 (fun g hg hk => by have := (ho.lt g hg).1; have : g = _ := hk; omega)
theorem RDt.done (h : RDt w W x q v) (hl : ∀ t ∈ q.leaves, t.size ≤ 9223372036854775807) (cs fs : Array Value) : ∃ a cap, v = .slice a q.leaves.length cap ∧ TextsAt ((W.setRow w.heap.size cs).setRow (w.heap.size + 1) fs) a q.leaves := by
  have U : Upd (two w.heap.size (w.heap.size + 1)) W ((W.setRow w.heap.size cs).setRow (w.heap.size + 1) fs) := ((Upd.refl (two w.heap.size (w.heap.size + 1)) W).setRow (g := w.heap.size) (.inr (.inl rfl)) cs).setRow (g := w.heap.size + 1) (.inr (.inr rfl)) fs
  exact texts_of_row (ownsRow_upd h.own U (fun g hg hk => by have := (h.own.lt g hg).1; rcases hk with e | e <;> omega)) hl
end
theorem RefAt.fin_code {w : World} {b : Nat} {x : RdD} (h : RefAt w b x) (y : Nat × Option Int) (hf : x.fin = some y) : 1 ≤ faultC (some y) := by
  obtain ⟨k, p⟩ := y
  show (1 : Int) ≤ (k : Int)
  unfold RdD.fin at hf
  split at hf
  · have : k = 3 := by simp only [Option.some.injEq, Prod.mk.injEq] at hf; exact hf.1.symm
    omega
  · have := h.code k p hf; omega
theorem body_rset : hasBody Tryz.prog 45 = true := by kernel_rfl
theorem body_rtext : hasBody Tryz.prog 46 = true := by kernel_rfl
theorem RDt.start (w : World) (s : ByteArray) (hs : 2 ≤ s.size) (hs2 : s.size ≤ 9223372036854775807) (c d : Nat) : RDt w ((((w.alloc (.cells zeroQry.toArray 27)).alloc (.cells #[.int .i64 0, .int .i64 0] 36)).alloc (.cells (qCells ⟨c, d, 0, 0, 0, 0, 0, []⟩ (.slice none 0 0)).toArray 27)).alloc (.cells #[.string s, .int .i64 2, .int .i64 0, .int .i64 0] 107)) ⟨s, 2, none⟩ ⟨c, d, 0, 0, 0, 0, 0, []⟩ (.slice none 0 0) := by
  have h := Res2.start w
  have hq := blk_alloc ((w.alloc (.cells zeroQry.toArray 27)).alloc (.cells #[.int .i64 0, .int .i64 0] 36)) (.cells (qCells ⟨c, d, 0, 0, 0, 0, 0, []⟩ (.slice none 0 0)).toArray 27)
  have hr := blk_alloc (((w.alloc (.cells zeroQry.toArray 27)).alloc (.cells #[.int .i64 0, .int .i64 0] 36)).alloc (.cells (qCells ⟨c, d, 0, 0, 0, 0, 0, []⟩ (.slice none 0 0)).toArray 27)) (.cells #[.string s, .int .i64 2, .int .i64 0, .int .i64 0] 107)
  simp only [World.size_alloc] at hq hr
  exact ⟨h.exts (((Upd.refl none' _).alloc _).alloc _), blk_alloc_lt hq _, ⟨hr, hs, hs2, fun k p e => by cases e⟩, ⟨rfl, .inl ⟨rfl, rfl⟩⟩⟩

set_option maxRecDepth 8000 in
set_option maxHeartbeats 8000000 in
theorem refD_nums {w : World} (bs : List UInt8) (hl : bs.length ≤ 1048576) (c d : UInt8) (l : List UInt8) (hbs : bs = c :: d :: l) (hk : okQ c.toNat = true) (hg : goesB c.toNat d.toNat = true) (hL : askL c.toNat = false)
    (r : QryD × RdD) (hr : decNums (askN c.toNat) ⟨c.toNat, d.toNat, 0, 0, 0, 0, 0, []⟩ ⟨str bs, 2, none⟩ = r) :
    Calls Tryz.prog 14 #[.string (str bs)] w (RefQPost w (finQ r.1 r.2)) := by
  subst hbs
  have hl2 : l.length + 2 ≤ 1048576 := by simpa using hl
  have d1 : ¬ (1048576 : Int) < (l.length : Int) + 1 + 1 := by omega
  have d2 : (((l.length : Int) + 1 + 1) == 0) = false := by rw [beq_eq_false_iff_ne]; omega
  have d3 : (((l.length : Int) + 1 + 1) == 1) = false := by rw [beq_eq_false_iff_ne]; omega
  have CF := fun w1 => fields_any c.toNat w1
  rw [hk] at CF
  have CE := fun w1 => engine_any (askE c.toNat) d.toNat w1
  rw [show (if askE c.toNat then decide (1 ≤ d.toNat) && decide (d.toNat ≤ 3) else decide (d.toNat = 0)) = goesB c.toNat d.toNat from rfl, hg] at CE
  have HSM := Lib.hid (let_len c.toNat)
  have hst := RDt.start w (str (c :: d :: l)) (by rw [str_size, List.length_cons, List.length_cons]; omega) (by rw [str_size, List.length_cons, List.length_cons]; omega) c.toNat d.toNat
  simp only [zeroQry, qCells] at hst
  have HST := Lib.hid hst
  clear hst
  have hr2 := (decL_N c.toNat hL ⟨c.toNat, d.toNat, 0, 0, 0, 0, 0, []⟩ ⟨str (c :: d :: l), 2, none⟩).trans hr
  have HRR := Lib.hid hr2
  have HLN := Lib.hid hL
  clear hr hr2 hL hk hg hl hl2
  go_enter Tryz.func14, Tryz.ntmps14
  go_wp2_with fail
  refine (CF _).mono ?_
  rintro e w1 ⟨rfl, rfl⟩
  go_wp2_with fail
  refine (CE _).mono ?_
  rintro e w1 ⟨rfl, rfl⟩
  clear CF CE d1 d2 d3
  go_wp2_with fail
  go_loopw [9] (fun iv wr => ∃ (i : Nat) (q : QryD) (x : RdD), iv = .int .i64 i ∧ i ≤ (letL c.toNat).length ∧ RDt w wr x q (.slice none 0 0) ∧ q.leaves = [] ∧ decL ((letL c.toNat).drop i) q x = r) (fun iv _ => (letL c.toNat).length - (RowKit.intOf iv).toNat)
  case atStart => exact ⟨0, _, _, rfl, Nat.zero_le _, HST.out, rfl, HRR.out⟩
  case round =>
    obtain ⟨i, q, x, rfl, hi1, hd, hql, hdr⟩ := hrel
    have HD := Lib.hid hd
    have HQL := Lib.hid hql
    have HDR := Lib.hid hdr
    have hls : (str (letL c.toNat)).size = (letL c.toNat).length := str_size _
    by_cases hlt : i < (letL c.toNat).length
    · have hgt := List.getElem?_eq_getElem hlt
      have hj2 : i < (str (letL c.toNat)).size := by rw [hls]; exact hlt
      have hi3 : i ≤ 2 := by have := HSM.out; omega
      have hdx : (str (letL c.toNat)).data[i]? = some ((letL c.toNat)[i]'hlt) := (by simp [str] : (str _).data[i]? = _[i]?).trans hgt
      have HID := Lib.hid (idx_strL (letL c.toNat) i _ hgt)
      have hne := let_no c.toNat i _ hgt HLN.out
      have d76 : ((((letL c.toNat)[i]'hlt).toNat : Int) != 76) = true := by rw [not76]; simpa using hne
      have CV := var_r hd.rd
      have HDL := Lib.hid (hdr.symm.trans (decL_drop (letL c.toNat) i _ hgt q x)).symm
      have HN2 : Hid (r = r) := Lib.hid rfl
      clear hd hql hdr hgt hls hne
      go_wp2_with fail
      refine CV.mono ?_
      rintro e w2 ⟨rfl, R2, u⟩
      have HD1 := Lib.hid (HD.out.rdr R2 u)
      obtain ⟨nv, hnv⟩ : ∃ nv, x.var.1 = nv := ⟨_, rfl⟩
      have HSL := Lib.hid ((setQ_leaves q (idxL ((letL c.toNat)[i]'hlt)) nv).trans HQL.out)
      rw [hnv] at HDL ⊢
      have HLD := Lib.hid (fun (w1 : World) (hX : Ext w2 w1) (i : Nat) (u : Value) (hu : (qCells q (.slice none 0 0))[i]? = some u) => show w1.cell? ⟨w.heap.size + 2, 0 + i, none⟩ = some u by
        rw [cell_of_blk (Ext.blk hX HD1.out.qb), Nat.zero_add, List.getElem?_toArray]; exact hu)
      clear R2 u CV hnv
      go_wp2_with fail
      refine region_tail 6 (fun _ => ⟨0, 0, none⟩) [.inl (.agg (qCells q (.slice none 0 0)).toArray), .inl (.string (str (letL c.toNat))), .inl (.int .i64 (i : Int)), .inl (.int .u8 ((((letL c.toNat)[i]'hlt)).toNat : Int)), .inl (.int .u64 nv), .inl (.agg (qCells (setQ q (idxL ((letL c.toNat)[i]'hlt)) nv) (.slice none 0 0)).toArray)] (by kernel_rfl) (by kernel_rfl) (by rfl) (by rfl) (by rfl) (by rfl) ?_ ?_
      rotate_left
      · intro v w' X hv
        have h72 := slot_val (hv 5 _ 72 rfl rfl) rfl
        have HD2 := Lib.hid (HD1.out.ext X)
        clear X hv
        refine any_norm (by simp only [List.take, putAll]; rewrite [h72]; go_simp; all_goals exact rfl) ?_
        clear h72
        refine any1 6 (by kernel_rfl) ?_
        refine op_storeAgg rfl (by rfl) 27 _ _ rfl (w.heap.size + 2) rfl (qCells (setQ q (idxL ((letL c.toNat)[i]'hlt)) nv) (.slice none 0 0)) rfl qry_size (qCells q (.slice none 0 0)) 27 HD2.out.qb rfl (qry_one _ _ rfl) ?_
        have HD3 := Lib.hid (HD2.out.set (setQ q (idxL ((letL c.toNat)[i]'hlt)) nv) (HSL.out.trans HQL.out.symm))
        refine any_norm (by go_simp; all_goals exact rfl) ?_
        refine wpAny_done (by kernel_rfl) ?_ _
        go_wp2_with fail
        exact ⟨⟨i + 1, _, _, by simp, by omega, HD3.out, HSL.out, HDL.out⟩, by simp [RowKit.intOf] <;> omega⟩
      refine ⟨ty_loadAgg 27 (w.heap.size + 2) 0 _ (gd_none rfl) rfl rfl (kn_old 4 rfl rfl) Tryz.underlying27 rfl qry_size HLD.out, ?_⟩
      refine ⟨ty_move (gd_none rfl) rfl rfl (kn_old 5 rfl rfl), ?_⟩
      refine ⟨ty_move (gd_none rfl) rfl rfl (kn_old 9 rfl rfl), ?_⟩
      refine ⟨ty_index _ _ _ (gd_none rfl) rfl rfl (kn_new 1 rfl rfl rfl rfl) (kn_new 2 rfl rfl rfl rfl) HID.out, ?_⟩
      refine ⟨ty_move (gd_none rfl) rfl rfl (kn_old 10 rfl rfl), ?_⟩
      refine ⟨ty_call3 45 _ _ _ _ _ _ _ (gd_none rfl) rfl body_rset (kn_new 0 rfl rfl rfl rfl) (kn_new 3 rfl rfl rfl rfl) (kn_new 4 rfl rfl rfl rfl) (fun w1 _ => known_call rfl (refSet_any q none 0 0 _ nv w1)), ?_⟩
      exact trivial
    · obtain rfl : i = (letL c.toNat).length := by omega
      have hfi : (q, x) = r := by
        have := HDR.out
        rw [List.drop_length] at this
        exact this
      have CE := end_r hd.rd
      have HFI := Lib.hid hfi
      have HLV : Hid (∀ t ∈ q.leaves, t.size ≤ 9223372036854775807) := Lib.hid (fun t ht => by rw [HQL.out] at ht; cases ht)
      have v0 : Value.slice none 0 0 = Value.slice none 0 0 := rfl
      clear hd hql hdr hfi hls
      go_wp2_with fail
      refine CE.mono ?_
      rintro e w2 ⟨rfl, u⟩
      have HD4 := Lib.hid (HD.out.ext u)
      clear u CE HD
      cases hfin : x.fin with
      | none =>
        have hres : finQ r.1 r.2 = (q, none) := by rw [← HFI.out]; unfold finQ; rw [if_pos hfin]
        have HRES := Lib.hid hres
        have hFB := blk_alloc w2 (.cells #[.int .i64 0, .int .i64 0] 36)
        have HX5 := Lib.hid ((Upd.refl none' w2).alloc (.cells #[.int .i64 0, .int .i64 0] 36))
        have HNE := Lib.hid (show w2.heap.size ≠ w.heap.size by have := HD4.out.low; omega)
        have HF12 := Lib.hid hFB
        have HD5 := Lib.hid (HD4.out.ext HX5.out)
        have q0 : faultC (none : EV) = 0 := rfl
        have q1 : faultA (none : EV) = 0 := rfl
        clear hfin hFB hres
        go_wp2_with fail
        generalize hWW : w2.alloc (.cells #[.int .i64 0, .int .i64 0] 36) = WW at *
        generalize hbF : w2.heap.size = bF at *
        refine wp_region_any (by kernel_rfl) ?_
        change wpAny _ _ _ _ _ _ _ (World.drew _)
        have HDW := Lib.hid ((Upd.refl none' WW).drew)
        generalize WW.drew = wd at HDW ⊢
        have HRD := Lib.hid (HD5.out.ext HDW.out)
        have HFB := Lib.hid (Ext.blk HDW.out HF12.out)
        have HE := Lib.hid (HRD.out.res.fin (qCells q (.slice none 0 0)).toArray #[.int .i64 0, .int .i64 0])
        have HFS := Lib.hid (blk_setRow_ne HFB.out HNE.out (qCells q (.slice none 0 0)).toArray)
        clear HDW
        refine any2 0 1 (by kernel_rfl) ?_ ?_
        · refine op_loadAgg rfl (by rfl) 27 _ rfl (w.heap.size + 2) 0 rfl (qCells q (.slice none 0 0)) Tryz.underlying27 rfl qry_size (fun j u hu => by rw [cell_of_blk HRD.out.qb, Nat.zero_add, List.getElem?_toArray]; exact hu) ?_
          refine any_norm (by go_simp; all_goals exact rfl) ?_
          refine any2 1 2 (by kernel_rfl) ?_ ?_
          · refine op_loadAgg rfl (by rfl) 36 _ rfl bF 0 rfl [.int .i64 0, .int .i64 0] Tryz.underlying36 rfl fault_size2 (fun j u hu => by rw [cell_of_blk HFB.out, Nat.zero_add, List.getElem?_toArray]; exact hu) ?_
            refine any_norm (by go_simp; all_goals exact rfl) ?_
            refine any1 2 (by kernel_rfl) ?_
            refine op_storeAgg rfl (by rfl) 27 _ _ rfl w.heap.size rfl (qCells q (.slice none 0 0)) rfl qry_size zeroQry 27 HE.out.zq rfl (qry_one _ _ rfl) ?_
            refine any_norm (by go_simp; all_goals exact rfl) ?_
            refine any1 3 (by kernel_rfl) ?_
            refine op_storeAgg rfl (by rfl) 36 _ _ rfl (w.heap.size + 1) rfl [.int .i64 0, .int .i64 0] rfl fault_size2 [.int .i64 0, .int .i64 0] 36 HE.out.zf rfl (fault_one _ _) ?_
            refine any_norm (by go_simp; all_goals exact rfl) ?_
            refine wpAny_done (by kernel_rfl) ?_ _
            go_wp2_with fail
            exact bodyPost_ret (v := .tuple #[.agg (qCells q (.slice none 0 0)).toArray, .agg #[.int .i64 0, .int .i64 0]]) (resRD _ _ w.heap.size (w.heap.size + 1) _ _ rfl rfl HE.out.q rfl HE.out.f rfl) rfl ⟨none, 0, by rw [HRES.out]; rw [HQL.out]; rfl, by rw [HRES.out]; show TextsAt _ _ q.leaves; rw [HQL.out]; exact TextsAt.nil _ _, HE.out.ext⟩
          · refine op_storeAgg rfl (by rfl) 27 _ _ rfl w.heap.size rfl (qCells q (.slice none 0 0)) rfl qry_size zeroQry 27 HE.out.zq rfl (qry_one _ _ rfl) ?_
            refine any_norm (by go_simp; all_goals exact rfl) ?_
            refine any1 1 (by kernel_rfl) ?_
            refine op_loadAgg rfl (by rfl) 36 _ rfl bF 0 rfl [.int .i64 0, .int .i64 0] Tryz.underlying36 rfl fault_size2 (fun j u hu => by rw [cell_of_blk HFS.out, Nat.zero_add, List.getElem?_toArray]; exact hu) ?_
            refine any_norm (by go_simp; all_goals exact rfl) ?_
            refine any1 3 (by kernel_rfl) ?_
            refine op_storeAgg rfl (by rfl) 36 _ _ rfl (w.heap.size + 1) rfl [.int .i64 0, .int .i64 0] rfl fault_size2 [.int .i64 0, .int .i64 0] 36 HE.out.zf rfl (fault_one _ _) ?_
            refine any_norm (by go_simp; all_goals exact rfl) ?_
            refine wpAny_done (by kernel_rfl) ?_ _
            go_wp2_with fail
            exact bodyPost_ret (v := .tuple #[.agg (qCells q (.slice none 0 0)).toArray, .agg #[.int .i64 0, .int .i64 0]]) (resRD _ _ w.heap.size (w.heap.size + 1) _ _ rfl rfl HE.out.q rfl HE.out.f rfl) rfl ⟨none, 0, by rw [HRES.out]; rw [HQL.out]; rfl, by rw [HRES.out]; show TextsAt _ _ q.leaves; rw [HQL.out]; exact TextsAt.nil _ _, HE.out.ext⟩
        · refine op_loadAgg rfl (by rfl) 36 _ rfl bF 0 rfl [.int .i64 0, .int .i64 0] Tryz.underlying36 rfl fault_size2 (fun j u hu => by rw [cell_of_blk HFB.out, Nat.zero_add, List.getElem?_toArray]; exact hu) ?_
          refine any_norm (by go_simp; all_goals exact rfl) ?_
          refine any1 0 (by kernel_rfl) ?_
          refine op_loadAgg rfl (by rfl) 27 _ rfl (w.heap.size + 2) 0 rfl (qCells q (.slice none 0 0)) Tryz.underlying27 rfl qry_size (fun j u hu => by rw [cell_of_blk HRD.out.qb, Nat.zero_add, List.getElem?_toArray]; exact hu) ?_
          refine any_norm (by go_simp; all_goals exact rfl) ?_
          refine any1 2 (by kernel_rfl) ?_
          refine op_storeAgg rfl (by rfl) 27 _ _ rfl w.heap.size rfl (qCells q (.slice none 0 0)) rfl qry_size zeroQry 27 HE.out.zq rfl (qry_one _ _ rfl) ?_
          refine any_norm (by go_simp; all_goals exact rfl) ?_
          refine any1 3 (by kernel_rfl) ?_
          refine op_storeAgg rfl (by rfl) 36 _ _ rfl (w.heap.size + 1) rfl [.int .i64 0, .int .i64 0] rfl fault_size2 [.int .i64 0, .int .i64 0] 36 HE.out.zf rfl (fault_one _ _) ?_
          refine any_norm (by go_simp; all_goals exact rfl) ?_
          refine wpAny_done (by kernel_rfl) ?_ _
          go_wp2_with fail
          exact bodyPost_ret (v := .tuple #[.agg (qCells q (.slice none 0 0)).toArray, .agg #[.int .i64 0, .int .i64 0]]) (resRD _ _ w.heap.size (w.heap.size + 1) _ _ rfl rfl HE.out.q rfl HE.out.f rfl) rfl ⟨none, 0, by rw [HRES.out]; rw [HQL.out]; rfl, by rw [HRES.out]; show TextsAt _ _ q.leaves; rw [HQL.out]; exact TextsAt.nil _ _, HE.out.ext⟩
      | some y =>
        have hres : finQ r.1 r.2 = (zeroQ, some y) := by rw [← HFI.out]; unfold finQ; rw [if_neg (by rw [hfin]; simp)]; simp only [hfin]
        have HRES := Lib.hid hres
        have hcode := HD4.out.rd.fin_code y hfin
        have hk1 : ¬ faultC (some y) = 0 := by omega
        have HEF := Lib.hid (show efV (some y) = .agg #[.int .i64 (faultC (some y)), .int .i64 (faultA (some y))] by rw [← efC_is, ← efA_is])
        have hFB := blk_alloc w2 (.cells #[.int .i64 (faultC (some y)), .int .i64 (faultA (some y))] 36)
        have HX5 := Lib.hid ((Upd.refl none' w2).alloc (.cells #[.int .i64 (faultC (some y)), .int .i64 (faultA (some y))] 36))
        have HNE := Lib.hid (show w2.heap.size ≠ w.heap.size by have := HD4.out.low; omega)
        have HF12 := Lib.hid hFB
        have HD5 := Lib.hid (HD4.out.ext HX5.out)
        clear hfin hFB hres hcode
        go_wp2_with fail
        generalize hWW : w2.alloc (.cells #[.int .i64 (faultC (some y)), .int .i64 (faultA (some y))] 36) = WW at *
        generalize hbF : w2.heap.size = bF at *
        refine wp_region_any (by kernel_rfl) ?_
        change wpAny _ _ _ _ _ _ _ (World.drew _)
        have HDW := Lib.hid ((Upd.refl none' WW).drew)
        generalize WW.drew = wd at HDW ⊢
        have HRD := Lib.hid (HD5.out.ext HDW.out)
        have HFB := Lib.hid (Ext.blk HDW.out HF12.out)
        have HE := Lib.hid (HRD.out.res.fin zeroQry.toArray #[.int .i64 (faultC (some y)), .int .i64 (faultA (some y))])
        have HFS := Lib.hid (blk_setRow_ne HFB.out HNE.out zeroQry.toArray)
        clear HDW
        (refine wpAny_take (i := 0) (v := ?_) rfl (by kernel_rfl) (by kernel_rfl) (by kernel_rfl) (fun _ _ _ h => h) (Or.inl ⟨by rfl, ?_⟩) ?_; rotate_left; (· (intro w; go_simp; all_goals (with_reducible rfl))); refine any_norm (by go_simp; all_goals exact rfl) ?_)
        refine any2 1 2 (by kernel_rfl) ?_ ?_
        · refine op_loadAgg rfl (by rfl) 36 _ rfl bF 0 rfl [.int .i64 (faultC (some y)), .int .i64 (faultA (some y))] Tryz.underlying36 rfl fault_size2 (fun j u hu => by rw [cell_of_blk HFB.out, Nat.zero_add, List.getElem?_toArray]; exact hu) ?_
          refine any_norm (by go_simp; all_goals exact rfl) ?_
          refine any1 2 (by kernel_rfl) ?_
          refine op_storeAgg rfl (by rfl) 27 _ _ rfl w.heap.size rfl zeroQry rfl qry_size zeroQry 27 HE.out.zq rfl zeroQry_one ?_
          refine any_norm (by go_simp; all_goals exact rfl) ?_
          refine any1 3 (by kernel_rfl) ?_
          refine op_storeAgg rfl (by rfl) 36 _ _ rfl (w.heap.size + 1) rfl [.int .i64 (faultC (some y)), .int .i64 (faultA (some y))] rfl fault_size2 [.int .i64 0, .int .i64 0] 36 HE.out.zf rfl (fault_one _ _) ?_
          refine any_norm (by go_simp; all_goals exact rfl) ?_
          refine wpAny_done (by kernel_rfl) ?_ _
          go_wp2_with fail
          exact bodyPost_ret (v := .tuple #[.agg zeroQry.toArray, .agg #[.int .i64 (faultC (some y)), .int .i64 (faultA (some y))]]) (resRD _ _ w.heap.size (w.heap.size + 1) _ _ rfl rfl HE.out.q rfl HE.out.f rfl) rfl ⟨none, 0, by rw [HRES.out, HEF.out]; rfl, by rw [HRES.out]; exact TextsAt.nil _ _, HE.out.ext⟩
        · refine op_storeAgg rfl (by rfl) 27 _ _ rfl w.heap.size rfl zeroQry rfl qry_size zeroQry 27 HE.out.zq rfl zeroQry_one ?_
          refine any_norm (by go_simp; all_goals exact rfl) ?_
          refine any1 1 (by kernel_rfl) ?_
          refine op_loadAgg rfl (by rfl) 36 _ rfl bF 0 rfl [.int .i64 (faultC (some y)), .int .i64 (faultA (some y))] Tryz.underlying36 rfl fault_size2 (fun j u hu => by rw [cell_of_blk HFS.out, Nat.zero_add, List.getElem?_toArray]; exact hu) ?_
          refine any_norm (by go_simp; all_goals exact rfl) ?_
          refine any1 3 (by kernel_rfl) ?_
          refine op_storeAgg rfl (by rfl) 36 _ _ rfl (w.heap.size + 1) rfl [.int .i64 (faultC (some y)), .int .i64 (faultA (some y))] rfl fault_size2 [.int .i64 0, .int .i64 0] 36 HE.out.zf rfl (fault_one _ _) ?_
          refine any_norm (by go_simp; all_goals exact rfl) ?_
          refine wpAny_done (by kernel_rfl) ?_ _
          go_wp2_with fail
          exact bodyPost_ret (v := .tuple #[.agg zeroQry.toArray, .agg #[.int .i64 (faultC (some y)), .int .i64 (faultA (some y))]]) (resRD _ _ w.heap.size (w.heap.size + 1) _ _ rfl rfl HE.out.q rfl HE.out.f rfl) rfl ⟨none, 0, by rw [HRES.out, HEF.out]; rfl, by rw [HRES.out]; exact TextsAt.nil _ _, HE.out.ext⟩

set_option maxRecDepth 8000 in
set_option maxHeartbeats 8000000 in
theorem refD_leaves {w : World} (bs : List UInt8) (hl : bs.length ≤ 1048576) (c d : UInt8) (l : List UInt8) (hbs : bs = c :: d :: l) (hk : okQ c.toNat = true) (hg : goesB c.toNat d.toNat = true) (hL : askL c.toNat = true)
    (r : QryD × EV) (hr : leafQ (⟨c.toNat, d.toNat, 0, 0, 0, 0, 0, []⟩, ⟨str bs, 2, none⟩) = r) :
    Calls Tryz.prog 14 #[.string (str bs)] w (RefQPost w r) := by
  obtain ⟨j0, hj0, hjz0, hjz1, hjz2⟩ := info_parts info_string
  have h7 : c.toNat = 7 := by simpa [askL] using hL
  have hlet : letL c.toNat = [76] := by rw [h7]; rfl
  subst hbs
  have hl2 : l.length + 2 ≤ 1048576 := by simpa using hl
  have d1 : ¬ (1048576 : Int) < (l.length : Int) + 1 + 1 := by omega
  have d2 : (((l.length : Int) + 1 + 1) == 0) = false := by rw [beq_eq_false_iff_ne]; omega
  have d3 : (((l.length : Int) + 1 + 1) == 1) = false := by rw [beq_eq_false_iff_ne]; omega
  have CF := fun w1 => fields_any c.toNat w1
  rw [hk] at CF
  have CE := fun w1 => engine_any (askE c.toNat) d.toNat w1
  rw [show (if askE c.toNat then decide (1 ≤ d.toNat) && decide (d.toNat ≤ 3) else decide (d.toNat = 0)) = goesB c.toNat d.toNat from rfl, hg] at CE
  have HSM := Lib.hid (let_len c.toNat)
  have hst := RDt.start w (str (c :: d :: l)) (by rw [str_size, List.length_cons, List.length_cons]; omega) (by rw [str_size, List.length_cons, List.length_cons]; omega) c.toNat d.toNat
  simp only [zeroQry, qCells] at hst
  have HST := Lib.hid hst
  clear hst
  rw [hlet] at CF
  obtain ⟨x0, hx0⟩ : ∃ x0 : RdD, (⟨str (c :: d :: l), 2, none⟩ : RdD) = x0 := ⟨_, rfl⟩
  have HX0 := Lib.hid hx0
  have HRR := Lib.hid (show leafQ (⟨c.toNat, d.toNat, 0, 0, 0, 0, 0, []⟩, x0) = r by rw [← hx0]; exact hr)
  obtain ⟨nv, hnv⟩ : ∃ nv, x0.var.1 = nv := ⟨_, rfl⟩
  obtain ⟨x1, hx1⟩ : ∃ x1, x0.var.2 = x1 := ⟨_, rfl⟩
  have HNV := Lib.hid hnv
  have HX1 := Lib.hid hx1
  clear hr hL hk hg hl hl2 h7 hlet hx0 hnv hx1
  go_enter Tryz.func14, Tryz.ntmps14
  go_wp2_with fail
  refine (CF _).mono ?_
  rintro e w1 ⟨rfl, rfl⟩
  go_wp2_with fail
  refine (CE _).mono ?_
  rintro e w1 ⟨rfl, rfl⟩
  clear CF CE d1 d2 d3
  go_wp2_with fail
  go_loopw [9] (fun iv wr => (iv = .int .i64 (0 : Nat) ∧ RDt w wr x0 ⟨c.toNat, d.toNat, 0, 0, 0, 0, 0, []⟩ (.slice none 0 0)) ∨ (iv = .int .i64 (1 : Nat) ∧ ∃ (ls : List ByteArray) (x : RdD) (v : Value), RDt w wr x ⟨c.toNat, d.toNat, 0, 0, 0, 0, 0, ls⟩ v ∧ (∀ t ∈ ls, t.size ≤ 9223372036854775807) ∧ decTexts nv x1 = (ls, x) ∧ nv ≤ 4096)) (fun iv _ => 1 - (RowKit.intOf iv).toNat)
  case atStart => exact .inl ⟨rfl, by rw [← HX0.out]; exact HST.out⟩
  case round =>
    rcases hrel with ⟨rfl, hd⟩ | ⟨rfl, ls, x, v, hd, hls, hdt, hn4⟩
    · have HD := Lib.hid hd
      have CV := var_r hd.rd
      clear hd
      go_wp2_with fail
      refine CV.mono ?_
      rintro e w2 ⟨rfl, R2, u⟩
      have HD1 := Lib.hid (HD.out.rdr R2 u)
      rw [HNV.out]
      rw [HX1.out] at HD1
      clear R2 u CV
      by_cases hbig : 4096 < nv
      · have hres : r = (zeroQ, some (4, none)) := by rw [← HRR.out]; unfold leafQ; simp only [HNV.out]; rw [if_pos hbig]
        have HRES := Lib.hid hres
        have dbig : (4096 : Int) < nv := by omega
        have CP := fun w1 : World => plain_any 4 w1
        simp only [show ¬ ((4 : Int) = 0) by decide, if_false] at CP
        clear hbig hres
        go_wp2_with fail
        refine (CP _).mono ?_
        rintro e w1 ⟨rfl, u⟩
        have hE := (HD1.out.res.exts u).fin zeroQry.toArray #[.int .i64 4, .int .i64 (-1)]
        have HE := Lib.hid hE
        clear u hE
        go_wp2_with (first
          | (refine store_whole rfl 27 _ _ rfl w.heap.size rfl zeroQry rfl qry_size zeroQry 27 HE.out.zq rfl zeroQry_one ?_)
          | (refine store_whole rfl 36 _ _ rfl (w.heap.size + 1) rfl [.int .i64 4, .int .i64 (-1)] rfl fault_size2 [.int .i64 0, .int .i64 0] 36 HE.out.zf rfl (fault_one _ _) ?_))
        exact bodyPost_ret (v := .tuple #[.agg zeroQry.toArray, .agg #[.int .i64 4, .int .i64 (-1)]]) (resRD _ _ w.heap.size (w.heap.size + 1) _ _ rfl rfl HE.out.q rfl HE.out.f rfl) rfl ⟨none, 0, by rw [HRES.out]; rfl, by rw [HRES.out]; exact TextsAt.nil _ _, HE.out.ext⟩
      · have dbig : ¬ (4096 : Int) < nv := by omega
        have hn4 : nv ≤ 4096 := by omega
        have hcv : IntKind.i64.wrap (nv : Int) = (nv : Int) := IntWalk.i64_in _ (by omega)
        have HN4 := Lib.hid hn4
        clear hbig
        go_wp2_with fail
        go_loopw [11] (fun iv wr => ∃ (k : Nat) (ls : List ByteArray) (x : RdD) (v : Value), iv = .int .i64 k ∧ k ≤ nv ∧ ls.length = k ∧ RDt w wr x ⟨c.toNat, d.toNat, 0, 0, 0, 0, 0, ls⟩ v ∧ (∀ t ∈ ls, t.size ≤ 9223372036854775807) ∧ decTexts nv x1 = (ls ++ (decTexts (nv - ls.length) x).1, (decTexts (nv - ls.length) x).2)) (fun iv _ => nv - (RowKit.intOf iv).toNat)
        case atStart => exact ⟨0, [], x1, .slice none 0 0, rfl, Nat.zero_le _, rfl, HD1.out, (fun t h => by cases h), by simp⟩
        case round =>
          obtain ⟨k, ls, x, v, rfl, hk1, hlk, hd, hls, hdt⟩ := hrel
          have HD1 := Lib.hid hd
          have HLJ := Lib.hid hlk
          have HLS := Lib.hid hls
          have HDT := Lib.hid hdt
          by_cases hkn : k < nv
          · have HLN : Hid (∀ t ∈ ls ++ [str (x.text 65536).1], t.size ≤ 9223372036854775807) := Lib.hid (fun t ht => by
              rcases List.mem_append.1 ht with h | h
              · exact HLS.out t h
              · rw [List.mem_singleton.1 h, str_size]; exact Nat.le_trans (text_len x _) HD1.out.rd.sz)
            have HDN := Lib.hid (decTexts_more hdt (by omega))
            have H1 : Hid (∀ u ∈ ([.string (str (x.text 65536).1)] : List Value), u.oneCell' = true) := Lib.hid (fun u hu => by rw [List.mem_singleton.1 hu]; rfl)
            have HM := Lib.hid (show ls.length + 1 ≤ maxLen ∧ (ls.length + 1) * 16 ≤ 140737488355328 by unfold maxLen; omega)
            have hki : (k : Int) < nv := by omega
            clear hd hlk hls hdt
            go_wp2_with fail
            refine wp_region_any (by kernel_rfl) ?_
            change wpAny _ _ _ _ _ _ _ (World.drew _)
            have HQ := Lib.hid (HD1.out.ext ((Upd.refl none' wr).drew))
            generalize wr.drew = wd at HQ ⊢
            (refine wpAny_take (i := 0) (v := ?_) rfl (by kernel_rfl) (by kernel_rfl) (by kernel_rfl) (fun _ _ _ h => h) (Or.inl ⟨by rfl, ?_⟩) ?_; rotate_left; (· (intro w; go_simp; all_goals (with_reducible rfl))); refine any_norm (by go_simp; all_goals exact rfl) ?_)
            (refine wpAny_take (i := 2) (v := ?_) rfl (by kernel_rfl) (by kernel_rfl) (by kernel_rfl) (fun _ _ _ h => h) (Or.inl ⟨by rfl, ?_⟩) ?_; rotate_left; (· (intro w; go_simp; all_goals (with_reducible rfl))); refine any_norm (by go_simp; all_goals exact rfl) ?_)
            refine any2 1 3 (by kernel_rfl) ?_ ?_
            · have cl := cell_of_blk HQ.out.qb 7
              refine op_load1 rfl (by rfl) rfl ⟨w.heap.size + 2, 7, none⟩ v rfl Tryz.underlying25 rfl (by rw [cl]; rfl) ?_
              clear cl
              refine any_norm (by go_simp; all_goals exact rfl) ?_
              refine any1 3 (by kernel_rfl) ?_
              refine op_callf rfl (by rfl) 46 [.tmp 85, .const (.int .i64 65536)] _ rfl body_rtext [.pointer (some ⟨w.heap.size + 3, 0, none⟩), .int .i64 65536] rfl (R := fun u w' => u = .string (str (x.text 65536).1) ∧ RefAt w' (w.heap.size + 3) (x.text 65536).2 ∧ Upd (one (w.heap.size + 3)) _ w') ((text_r HQ.out.rd 65536 (by decide)).mono (by rintro e w' ⟨rfl, r, u⟩; exact ⟨_, rfl, rfl, r, u⟩)) ?_
              rintro _ w2 ⟨rfl, r, u⟩
              replace HQ := Lib.hid (HQ.out.rdr r u)
              clear r u
              refine any_norm (by go_simp; all_goals exact rfl) ?_
              refine any1 4 (by kernel_rfl) ?_
              rename World => wb
              refine op_build1Q rfl (by rfl) 25 9 _ rfl (.string (str (x.text 65536).1)) rfl Tryz.underlying25 j0 (.string ⟨#[]⟩) hj0 hjz0 hjz1 rfl ?_
              have hb4 := blk_alloc wb (.cells #[.string (str (x.text 65536).1)] 9)
              have HN4 := Lib.hid (fun (j : Nat) (u : Value) (hu : ([.string (str (x.text 65536).1)] : List Value)[j]? = some u) => show World.cell? _ ((⟨wb.heap.size, 0, none⟩ : Addr).add j) = some u from by rw [show (⟨wb.heap.size, 0, none⟩ : Addr).add j = ⟨wb.heap.size, j, none⟩ from by unfold Addr.add; split <;> simp_all, cell_of_blk hb4]; simpa using hu)
              replace HQ := Lib.hid (HQ.out.ext ((Upd.refl none' wb).alloc (.cells #[.string (str (x.text 65536).1)] 9)))
              clear hb4
              refine any_norm (by go_simp; all_goals exact rfl) ?_
              refine any1 5 (by kernel_rfl) ?_
              refine op_app1 rfl (by rfl) (.tmp 84) (.tmp 87) 25 rfl (w.heap.size + 4) 9 j0 (.string ⟨#[]⟩) 1 16 Tryz.underlying25 hj0 hjz0 hjz1 hjz2 rfl (by decide) v _ _ rfl HQ.out.own ⟨wb.heap.size, 0, none⟩ 1 1 [.string (str (x.text 65536).1)] rfl rfl HN4.out H1.out HM.out.1 HM.out.2 HQ.out.low ?_
              intro v' w7 ho hg hbl
              have hb7 := HQ.out.after hg
              have c7 := cell_of_blk hb7 7
              have f7 := free_of_blk hb7 7
              have HA5 := Lib.hid (HQ.out.app (str (x.text 65536).1) ho hg)
              have HO5 := Lib.hid (own_one ho)
              have HC5 := Lib.hid (own_cells ho)
              clear ho hg hbl hb7
              refine any_norm (by go_simp; all_goals exact rfl) ?_
              (refine wpAny_take (i := 6) (v := ?_) rfl (by kernel_rfl) (by kernel_rfl) (by kernel_rfl) (fun _ _ _ h => h) (Or.inl ⟨by rfl, ?_⟩) ?_; rotate_left; (· (intro w; go_simp; all_goals (with_reducible rfl))); refine any_norm (by go_simp; all_goals exact rfl) ?_)
              refine any1 7 (by kernel_rfl) ?_
              refine op_store1 rfl (by rfl) 25 _ _ rfl ⟨w.heap.size + 2, 7, none⟩ rfl v' rfl HC5.out HO5.out size_strs v (by rw [c7]; rfl) f7 ?_
              clear c7 f7
              refine any_norm (by go_simp; all_goals exact rfl) ?_
              refine wpAny_done (by kernel_rfl) ?_ _
              go_wp2_with fail
              exact ⟨⟨k + 1, ls ++ [str (x.text 65536).1], _, v', by simp, by omega, by simp only [List.length_append, List.length_cons, List.length_nil]; have := HLJ.out; omega, HA5.out, HLN.out, HDN.out⟩, by simp [RowKit.intOf] <;> omega⟩
            · refine op_callf rfl (by rfl) 46 [.tmp 85, .const (.int .i64 65536)] _ rfl body_rtext [.pointer (some ⟨w.heap.size + 3, 0, none⟩), .int .i64 65536] rfl (R := fun u w' => u = .string (str (x.text 65536).1) ∧ RefAt w' (w.heap.size + 3) (x.text 65536).2 ∧ Upd (one (w.heap.size + 3)) _ w') ((text_r HQ.out.rd 65536 (by decide)).mono (by rintro e w' ⟨rfl, r, u⟩; exact ⟨_, rfl, rfl, r, u⟩)) ?_
              rintro _ w2 ⟨rfl, r, u⟩
              replace HQ := Lib.hid (HQ.out.rdr r u)
              clear r u
              refine any_norm (by go_simp; all_goals exact rfl) ?_
              refine any2 1 4 (by kernel_rfl) ?_ ?_
              · have cl := cell_of_blk HQ.out.qb 7
                refine op_load1 rfl (by rfl) rfl ⟨w.heap.size + 2, 7, none⟩ v rfl Tryz.underlying25 rfl (by rw [cl]; rfl) ?_
                clear cl
                refine any_norm (by go_simp; all_goals exact rfl) ?_
                refine any1 4 (by kernel_rfl) ?_
                rename World => wb
                refine op_build1Q rfl (by rfl) 25 9 _ rfl (.string (str (x.text 65536).1)) rfl Tryz.underlying25 j0 (.string ⟨#[]⟩) hj0 hjz0 hjz1 rfl ?_
                have hb4 := blk_alloc wb (.cells #[.string (str (x.text 65536).1)] 9)
                have HN4 := Lib.hid (fun (j : Nat) (u : Value) (hu : ([.string (str (x.text 65536).1)] : List Value)[j]? = some u) => show World.cell? _ ((⟨wb.heap.size, 0, none⟩ : Addr).add j) = some u from by rw [show (⟨wb.heap.size, 0, none⟩ : Addr).add j = ⟨wb.heap.size, j, none⟩ from by unfold Addr.add; split <;> simp_all, cell_of_blk hb4]; simpa using hu)
                replace HQ := Lib.hid (HQ.out.ext ((Upd.refl none' wb).alloc (.cells #[.string (str (x.text 65536).1)] 9)))
                clear hb4
                refine any_norm (by go_simp; all_goals exact rfl) ?_
                refine any1 5 (by kernel_rfl) ?_
                refine op_app1 rfl (by rfl) (.tmp 84) (.tmp 87) 25 rfl (w.heap.size + 4) 9 j0 (.string ⟨#[]⟩) 1 16 Tryz.underlying25 hj0 hjz0 hjz1 hjz2 rfl (by decide) v _ _ rfl HQ.out.own ⟨wb.heap.size, 0, none⟩ 1 1 [.string (str (x.text 65536).1)] rfl rfl HN4.out H1.out HM.out.1 HM.out.2 HQ.out.low ?_
                intro v' w7 ho hg hbl
                have hb7 := HQ.out.after hg
                have c7 := cell_of_blk hb7 7
                have f7 := free_of_blk hb7 7
                have HA5 := Lib.hid (HQ.out.app (str (x.text 65536).1) ho hg)
                have HO5 := Lib.hid (own_one ho)
                have HC5 := Lib.hid (own_cells ho)
                clear ho hg hbl hb7
                refine any_norm (by go_simp; all_goals exact rfl) ?_
                (refine wpAny_take (i := 6) (v := ?_) rfl (by kernel_rfl) (by kernel_rfl) (by kernel_rfl) (fun _ _ _ h => h) (Or.inl ⟨by rfl, ?_⟩) ?_; rotate_left; (· (intro w; go_simp; all_goals (with_reducible rfl))); refine any_norm (by go_simp; all_goals exact rfl) ?_)
                refine any1 7 (by kernel_rfl) ?_
                refine op_store1 rfl (by rfl) 25 _ _ rfl ⟨w.heap.size + 2, 7, none⟩ rfl v' rfl HC5.out HO5.out size_strs v (by rw [c7]; rfl) f7 ?_
                clear c7 f7
                refine any_norm (by go_simp; all_goals exact rfl) ?_
                refine wpAny_done (by kernel_rfl) ?_ _
                go_wp2_with fail
                exact ⟨⟨k + 1, ls ++ [str (x.text 65536).1], _, v', by simp, by omega, by simp only [List.length_append, List.length_cons, List.length_nil]; have := HLJ.out; omega, HA5.out, HLN.out, HDN.out⟩, by simp [RowKit.intOf] <;> omega⟩
              · rename World => wb
                refine op_build1Q rfl (by rfl) 25 9 _ rfl (.string (str (x.text 65536).1)) rfl Tryz.underlying25 j0 (.string ⟨#[]⟩) hj0 hjz0 hjz1 rfl ?_
                have hb4 := blk_alloc wb (.cells #[.string (str (x.text 65536).1)] 9)
                have HN4 := Lib.hid (fun (j : Nat) (u : Value) (hu : ([.string (str (x.text 65536).1)] : List Value)[j]? = some u) => show World.cell? _ ((⟨wb.heap.size, 0, none⟩ : Addr).add j) = some u from by rw [show (⟨wb.heap.size, 0, none⟩ : Addr).add j = ⟨wb.heap.size, j, none⟩ from by unfold Addr.add; split <;> simp_all, cell_of_blk hb4]; simpa using hu)
                replace HQ := Lib.hid (HQ.out.ext ((Upd.refl none' wb).alloc (.cells #[.string (str (x.text 65536).1)] 9)))
                clear hb4
                refine any_norm (by go_simp; all_goals exact rfl) ?_
                refine any1 1 (by kernel_rfl) ?_
                have cl := cell_of_blk HQ.out.qb 7
                refine op_load1 rfl (by rfl) rfl ⟨w.heap.size + 2, 7, none⟩ v rfl Tryz.underlying25 rfl (by rw [cl]; rfl) ?_
                clear cl
                refine any_norm (by go_simp; all_goals exact rfl) ?_
                refine any1 5 (by kernel_rfl) ?_
                refine op_app1 rfl (by rfl) (.tmp 84) (.tmp 87) 25 rfl (w.heap.size + 4) 9 j0 (.string ⟨#[]⟩) 1 16 Tryz.underlying25 hj0 hjz0 hjz1 hjz2 rfl (by decide) v _ _ rfl HQ.out.own ⟨wb.heap.size, 0, none⟩ 1 1 [.string (str (x.text 65536).1)] rfl rfl HN4.out H1.out HM.out.1 HM.out.2 HQ.out.low ?_
                intro v' w7 ho hg hbl
                have hb7 := HQ.out.after hg
                have c7 := cell_of_blk hb7 7
                have f7 := free_of_blk hb7 7
                have HA5 := Lib.hid (HQ.out.app (str (x.text 65536).1) ho hg)
                have HO5 := Lib.hid (own_one ho)
                have HC5 := Lib.hid (own_cells ho)
                clear ho hg hbl hb7
                refine any_norm (by go_simp; all_goals exact rfl) ?_
                (refine wpAny_take (i := 6) (v := ?_) rfl (by kernel_rfl) (by kernel_rfl) (by kernel_rfl) (fun _ _ _ h => h) (Or.inl ⟨by rfl, ?_⟩) ?_; rotate_left; (· (intro w; go_simp; all_goals (with_reducible rfl))); refine any_norm (by go_simp; all_goals exact rfl) ?_)
                refine any1 7 (by kernel_rfl) ?_
                refine op_store1 rfl (by rfl) 25 _ _ rfl ⟨w.heap.size + 2, 7, none⟩ rfl v' rfl HC5.out HO5.out size_strs v (by rw [c7]; rfl) f7 ?_
                clear c7 f7
                refine any_norm (by go_simp; all_goals exact rfl) ?_
                refine wpAny_done (by kernel_rfl) ?_ _
                go_wp2_with fail
                exact ⟨⟨k + 1, ls ++ [str (x.text 65536).1], _, v', by simp, by omega, by simp only [List.length_append, List.length_cons, List.length_nil]; have := HLJ.out; omega, HA5.out, HLN.out, HDN.out⟩, by simp [RowKit.intOf] <;> omega⟩
          · obtain rfl : k = nv := by omega
            have hend := decTexts_end hdt hlk
            have HEND := Lib.hid hend
            clear hd hlk hls hdt hend
            go_wp2_with fail
            exact ⟨.inr ⟨rfl, ls, x, v, HD1.out, HLS.out, HEND.out, HN4.out⟩, by simp [RowKit.intOf]⟩
    · have HD := Lib.hid hd
      have CE := end_r hd.rd
      have HLV : Hid (∀ t ∈ (⟨c.toNat, d.toNat, 0, 0, 0, 0, 0, ls⟩ : QryD).leaves, t.size ≤ 9223372036854775807) := Lib.hid hls
      have hfr : r = finQ (⟨c.toNat, d.toNat, 0, 0, 0, 0, 0, ls⟩ : QryD) x := by
        rw [← HRR.out]; unfold leafQ
        simp only [HNV.out, HX1.out, hdt]
        rw [if_neg (by omega)]
      have HFR := Lib.hid hfr
      clear hd hls hdt hn4 hfr
      go_wp2_with fail
      refine CE.mono ?_
      rintro e w2 ⟨rfl, u⟩
      have HD4 := Lib.hid (HD.out.ext u)
      clear u CE HD
      cases hfin : x.fin with
      | none =>
        have hres : r = ((⟨c.toNat, d.toNat, 0, 0, 0, 0, 0, ls⟩ : QryD), none) := by rw [HFR.out]; unfold finQ; rw [if_pos hfin]
        have HRES := Lib.hid hres
        have hFB := blk_alloc w2 (.cells #[.int .i64 0, .int .i64 0] 36)
        have HX5 := Lib.hid ((Upd.refl none' w2).alloc (.cells #[.int .i64 0, .int .i64 0] 36))
        have HNE := Lib.hid (show w2.heap.size ≠ w.heap.size by have := HD4.out.low; omega)
        have HF12 := Lib.hid hFB
        have HD5 := Lib.hid (HD4.out.ext HX5.out)
        have HON := Lib.hid (own_one HD5.out.own)
        have q0 : faultC (none : EV) = 0 := rfl
        have q1 : faultA (none : EV) = 0 := rfl
        clear hfin hFB hres
        go_wp2_with fail
        generalize hWW : w2.alloc (.cells #[.int .i64 0, .int .i64 0] 36) = WW at *
        generalize hbF : w2.heap.size = bF at *
        refine wp_region_any (by kernel_rfl) ?_
        change wpAny _ _ _ _ _ _ _ (World.drew _)
        have HDW := Lib.hid ((Upd.refl none' WW).drew)
        generalize WW.drew = wd at HDW ⊢
        have HRD := Lib.hid (HD5.out.ext HDW.out)
        have HFB := Lib.hid (Ext.blk HDW.out HF12.out)
        have HE := Lib.hid (HRD.out.res.fin (qCells (⟨c.toNat, d.toNat, 0, 0, 0, 0, 0, ls⟩ : QryD) v).toArray #[.int .i64 0, .int .i64 0])
        have HFS := Lib.hid (blk_setRow_ne HFB.out HNE.out (qCells (⟨c.toNat, d.toNat, 0, 0, 0, 0, 0, ls⟩ : QryD) v).toArray)
        clear HDW
        refine any2 0 1 (by kernel_rfl) ?_ ?_
        · refine op_loadAgg rfl (by rfl) 27 _ rfl (w.heap.size + 2) 0 rfl (qCells (⟨c.toNat, d.toNat, 0, 0, 0, 0, 0, ls⟩ : QryD) v) Tryz.underlying27 rfl qry_size (fun j u hu => by rw [cell_of_blk HRD.out.qb, Nat.zero_add, List.getElem?_toArray]; exact hu) ?_
          refine any_norm (by go_simp; all_goals exact rfl) ?_
          refine any2 1 2 (by kernel_rfl) ?_ ?_
          · refine op_loadAgg rfl (by rfl) 36 _ rfl bF 0 rfl [.int .i64 0, .int .i64 0] Tryz.underlying36 rfl fault_size2 (fun j u hu => by rw [cell_of_blk HFB.out, Nat.zero_add, List.getElem?_toArray]; exact hu) ?_
            refine any_norm (by go_simp; all_goals exact rfl) ?_
            refine any1 2 (by kernel_rfl) ?_
            refine op_storeAgg rfl (by rfl) 27 _ _ rfl w.heap.size rfl (qCells (⟨c.toNat, d.toNat, 0, 0, 0, 0, 0, ls⟩ : QryD) v) rfl qry_size zeroQry 27 HE.out.zq rfl (qry_one _ _ HON.out) ?_
            refine any_norm (by go_simp; all_goals exact rfl) ?_
            refine any1 3 (by kernel_rfl) ?_
            refine op_storeAgg rfl (by rfl) 36 _ _ rfl (w.heap.size + 1) rfl [.int .i64 0, .int .i64 0] rfl fault_size2 [.int .i64 0, .int .i64 0] 36 HE.out.zf rfl (fault_one _ _) ?_
            refine any_norm (by go_simp; all_goals exact rfl) ?_
            refine wpAny_done (by kernel_rfl) ?_ _
            go_wp2_with fail
            obtain ⟨a, cap, hv, htx⟩ := HRD.out.done HLV.out (qCells (⟨c.toNat, d.toNat, 0, 0, 0, 0, 0, ls⟩ : QryD) v).toArray #[.int .i64 0, .int .i64 0]
            exact bodyPost_ret (v := .tuple #[.agg (qCells (⟨c.toNat, d.toNat, 0, 0, 0, 0, 0, ls⟩ : QryD) v).toArray, .agg #[.int .i64 0, .int .i64 0]]) (resRD _ _ w.heap.size (w.heap.size + 1) _ _ rfl rfl HE.out.q rfl HE.out.f rfl) rfl ⟨a, cap, by rw [HRES.out, hv]; rfl, by rw [HRES.out]; exact htx, HE.out.ext⟩
          · refine op_storeAgg rfl (by rfl) 27 _ _ rfl w.heap.size rfl (qCells (⟨c.toNat, d.toNat, 0, 0, 0, 0, 0, ls⟩ : QryD) v) rfl qry_size zeroQry 27 HE.out.zq rfl (qry_one _ _ HON.out) ?_
            refine any_norm (by go_simp; all_goals exact rfl) ?_
            refine any1 1 (by kernel_rfl) ?_
            refine op_loadAgg rfl (by rfl) 36 _ rfl bF 0 rfl [.int .i64 0, .int .i64 0] Tryz.underlying36 rfl fault_size2 (fun j u hu => by rw [cell_of_blk HFS.out, Nat.zero_add, List.getElem?_toArray]; exact hu) ?_
            refine any_norm (by go_simp; all_goals exact rfl) ?_
            refine any1 3 (by kernel_rfl) ?_
            refine op_storeAgg rfl (by rfl) 36 _ _ rfl (w.heap.size + 1) rfl [.int .i64 0, .int .i64 0] rfl fault_size2 [.int .i64 0, .int .i64 0] 36 HE.out.zf rfl (fault_one _ _) ?_
            refine any_norm (by go_simp; all_goals exact rfl) ?_
            refine wpAny_done (by kernel_rfl) ?_ _
            go_wp2_with fail
            obtain ⟨a, cap, hv, htx⟩ := HRD.out.done HLV.out (qCells (⟨c.toNat, d.toNat, 0, 0, 0, 0, 0, ls⟩ : QryD) v).toArray #[.int .i64 0, .int .i64 0]
            exact bodyPost_ret (v := .tuple #[.agg (qCells (⟨c.toNat, d.toNat, 0, 0, 0, 0, 0, ls⟩ : QryD) v).toArray, .agg #[.int .i64 0, .int .i64 0]]) (resRD _ _ w.heap.size (w.heap.size + 1) _ _ rfl rfl HE.out.q rfl HE.out.f rfl) rfl ⟨a, cap, by rw [HRES.out, hv]; rfl, by rw [HRES.out]; exact htx, HE.out.ext⟩
        · refine op_loadAgg rfl (by rfl) 36 _ rfl bF 0 rfl [.int .i64 0, .int .i64 0] Tryz.underlying36 rfl fault_size2 (fun j u hu => by rw [cell_of_blk HFB.out, Nat.zero_add, List.getElem?_toArray]; exact hu) ?_
          refine any_norm (by go_simp; all_goals exact rfl) ?_
          refine any1 0 (by kernel_rfl) ?_
          refine op_loadAgg rfl (by rfl) 27 _ rfl (w.heap.size + 2) 0 rfl (qCells (⟨c.toNat, d.toNat, 0, 0, 0, 0, 0, ls⟩ : QryD) v) Tryz.underlying27 rfl qry_size (fun j u hu => by rw [cell_of_blk HRD.out.qb, Nat.zero_add, List.getElem?_toArray]; exact hu) ?_
          refine any_norm (by go_simp; all_goals exact rfl) ?_
          refine any1 2 (by kernel_rfl) ?_
          refine op_storeAgg rfl (by rfl) 27 _ _ rfl w.heap.size rfl (qCells (⟨c.toNat, d.toNat, 0, 0, 0, 0, 0, ls⟩ : QryD) v) rfl qry_size zeroQry 27 HE.out.zq rfl (qry_one _ _ HON.out) ?_
          refine any_norm (by go_simp; all_goals exact rfl) ?_
          refine any1 3 (by kernel_rfl) ?_
          refine op_storeAgg rfl (by rfl) 36 _ _ rfl (w.heap.size + 1) rfl [.int .i64 0, .int .i64 0] rfl fault_size2 [.int .i64 0, .int .i64 0] 36 HE.out.zf rfl (fault_one _ _) ?_
          refine any_norm (by go_simp; all_goals exact rfl) ?_
          refine wpAny_done (by kernel_rfl) ?_ _
          go_wp2_with fail
          obtain ⟨a, cap, hv, htx⟩ := HRD.out.done HLV.out (qCells (⟨c.toNat, d.toNat, 0, 0, 0, 0, 0, ls⟩ : QryD) v).toArray #[.int .i64 0, .int .i64 0]
          exact bodyPost_ret (v := .tuple #[.agg (qCells (⟨c.toNat, d.toNat, 0, 0, 0, 0, 0, ls⟩ : QryD) v).toArray, .agg #[.int .i64 0, .int .i64 0]]) (resRD _ _ w.heap.size (w.heap.size + 1) _ _ rfl rfl HE.out.q rfl HE.out.f rfl) rfl ⟨a, cap, by rw [HRES.out, hv]; rfl, by rw [HRES.out]; exact htx, HE.out.ext⟩
      | some y =>
        have hres : r = (zeroQ, some y) := by rw [HFR.out]; unfold finQ; rw [if_neg (by rw [hfin]; simp)]; simp only [hfin]
        have HRES := Lib.hid hres
        have hcode := HD4.out.rd.fin_code y hfin
        have hk1 : ¬ faultC (some y) = 0 := by omega
        have HEF := Lib.hid (show efV (some y) = .agg #[.int .i64 (faultC (some y)), .int .i64 (faultA (some y))] by rw [← efC_is, ← efA_is])
        have hFB := blk_alloc w2 (.cells #[.int .i64 (faultC (some y)), .int .i64 (faultA (some y))] 36)
        have HX5 := Lib.hid ((Upd.refl none' w2).alloc (.cells #[.int .i64 (faultC (some y)), .int .i64 (faultA (some y))] 36))
        have HNE := Lib.hid (show w2.heap.size ≠ w.heap.size by have := HD4.out.low; omega)
        have HF12 := Lib.hid hFB
        have HD5 := Lib.hid (HD4.out.ext HX5.out)
        clear hfin hFB hres hcode
        go_wp2_with fail
        generalize hWW : w2.alloc (.cells #[.int .i64 (faultC (some y)), .int .i64 (faultA (some y))] 36) = WW at *
        generalize hbF : w2.heap.size = bF at *
        refine wp_region_any (by kernel_rfl) ?_
        change wpAny _ _ _ _ _ _ _ (World.drew _)
        have HDW := Lib.hid ((Upd.refl none' WW).drew)
        generalize WW.drew = wd at HDW ⊢
        have HRD := Lib.hid (HD5.out.ext HDW.out)
        have HFB := Lib.hid (Ext.blk HDW.out HF12.out)
        have HE := Lib.hid (HRD.out.res.fin zeroQry.toArray #[.int .i64 (faultC (some y)), .int .i64 (faultA (some y))])
        have HFS := Lib.hid (blk_setRow_ne HFB.out HNE.out zeroQry.toArray)
        clear HDW
        (refine wpAny_take (i := 0) (v := ?_) rfl (by kernel_rfl) (by kernel_rfl) (by kernel_rfl) (fun _ _ _ h => h) (Or.inl ⟨by rfl, ?_⟩) ?_; rotate_left; (· (intro w; go_simp; all_goals (with_reducible rfl))); refine any_norm (by go_simp; all_goals exact rfl) ?_)
        refine any2 1 2 (by kernel_rfl) ?_ ?_
        · refine op_loadAgg rfl (by rfl) 36 _ rfl bF 0 rfl [.int .i64 (faultC (some y)), .int .i64 (faultA (some y))] Tryz.underlying36 rfl fault_size2 (fun j u hu => by rw [cell_of_blk HFB.out, Nat.zero_add, List.getElem?_toArray]; exact hu) ?_
          refine any_norm (by go_simp; all_goals exact rfl) ?_
          refine any1 2 (by kernel_rfl) ?_
          refine op_storeAgg rfl (by rfl) 27 _ _ rfl w.heap.size rfl zeroQry rfl qry_size zeroQry 27 HE.out.zq rfl zeroQry_one ?_
          refine any_norm (by go_simp; all_goals exact rfl) ?_
          refine any1 3 (by kernel_rfl) ?_
          refine op_storeAgg rfl (by rfl) 36 _ _ rfl (w.heap.size + 1) rfl [.int .i64 (faultC (some y)), .int .i64 (faultA (some y))] rfl fault_size2 [.int .i64 0, .int .i64 0] 36 HE.out.zf rfl (fault_one _ _) ?_
          refine any_norm (by go_simp; all_goals exact rfl) ?_
          refine wpAny_done (by kernel_rfl) ?_ _
          go_wp2_with fail
          exact bodyPost_ret (v := .tuple #[.agg zeroQry.toArray, .agg #[.int .i64 (faultC (some y)), .int .i64 (faultA (some y))]]) (resRD _ _ w.heap.size (w.heap.size + 1) _ _ rfl rfl HE.out.q rfl HE.out.f rfl) rfl ⟨none, 0, by rw [HRES.out, HEF.out]; rfl, by rw [HRES.out]; exact TextsAt.nil _ _, HE.out.ext⟩
        · refine op_storeAgg rfl (by rfl) 27 _ _ rfl w.heap.size rfl zeroQry rfl qry_size zeroQry 27 HE.out.zq rfl zeroQry_one ?_
          refine any_norm (by go_simp; all_goals exact rfl) ?_
          refine any1 1 (by kernel_rfl) ?_
          refine op_loadAgg rfl (by rfl) 36 _ rfl bF 0 rfl [.int .i64 (faultC (some y)), .int .i64 (faultA (some y))] Tryz.underlying36 rfl fault_size2 (fun j u hu => by rw [cell_of_blk HFS.out, Nat.zero_add, List.getElem?_toArray]; exact hu) ?_
          refine any_norm (by go_simp; all_goals exact rfl) ?_
          refine any1 3 (by kernel_rfl) ?_
          refine op_storeAgg rfl (by rfl) 36 _ _ rfl (w.heap.size + 1) rfl [.int .i64 (faultC (some y)), .int .i64 (faultA (some y))] rfl fault_size2 [.int .i64 0, .int .i64 0] 36 HE.out.zf rfl (fault_one _ _) ?_
          refine any_norm (by go_simp; all_goals exact rfl) ?_
          refine wpAny_done (by kernel_rfl) ?_ _
          go_wp2_with fail
          exact bodyPost_ret (v := .tuple #[.agg zeroQry.toArray, .agg #[.int .i64 (faultC (some y)), .int .i64 (faultA (some y))]]) (resRD _ _ w.heap.size (w.heap.size + 1) _ _ rfl rfl HE.out.q rfl HE.out.f rfl) rfl ⟨none, 0, by rw [HRES.out, HEF.out]; rfl, by rw [HRES.out]; exact TextsAt.nil _ _, HE.out.ext⟩
/-- The document's DecodeQuery, of any bytes. -/
theorem refD_any (s : ByteArray) (hs : s.size ≤ 9223372036854775807) (w : World) : Calls Tryz.prog 14 #[.string s] w (RefQPost w (decQ s)) := by
  obtain ⟨bs, rfl⟩ : ∃ bs, s = str bs := ⟨s.data.toList, (str_toList s).symm⟩
  rw [str_size] at hs
  have hz : (str bs).size = bs.length := str_size bs
  have hdl : (str bs).data.toList = bs := by simp [str]
  by_cases hl : 1048576 < bs.length
  · have e : decQ (str bs) = (zeroQ, some (4, none)) := by unfold decQ; rw [if_pos (by rw [hz]; exact hl)]
    rw [e]; exact refD_long bs hl hs
  · have hnl : ¬ 1048576 < (str bs).size := by rw [hz]; exact hl
    match hbs : bs with
    | [] =>
      have e : decQ (str []) = (zeroQ, some (3, some 0)) := by unfold decQ; rw [if_neg hnl, hdl]
      rw [e]; exact refD_empty [] rfl
    | [c] =>
      cases hk : okQ c.toNat with
      | false =>
        have e : decQ (str [c]) = (zeroQ, some (3, some 0)) := by unfold decQ; rw [if_neg hnl, hdl]; simp only [hk, if_true]
        rw [e]; exact refD_kind [c] (by simp) c [] rfl hk
      | true =>
        have e : decQ (str [c]) = (zeroQ, some (3, some 1)) := by unfold decQ; rw [if_neg hnl, hdl]; simp [hk]
        rw [e]; exact refD_one [c] c rfl hk
    | c :: d :: l =>
      cases hk : okQ c.toNat with
      | false =>
        have e : decQ (str (c :: d :: l)) = (zeroQ, some (3, some 0)) := by unfold decQ; rw [if_neg hnl, hdl]; simp only [hk, if_true]
        rw [e]; exact refD_kind _ (by omega) c (d :: l) rfl hk
      | true =>
        cases hg : goesB c.toNat d.toNat with
        | false =>
          have e : decQ (str (c :: d :: l)) = (zeroQ, some (3, some 1)) := by unfold decQ; rw [if_neg hnl, hdl]; simp [hk, hg]
          rw [e]; exact refD_goes _ (by omega) c d l rfl hk hg
        | true =>
          cases hL : askL c.toNat with
          | false =>
            have e : decQ (str (c :: d :: l)) = finQ (decNums (askN c.toNat) ⟨c.toNat, d.toNat, 0, 0, 0, 0, 0, []⟩ ⟨str (c :: d :: l), 2, none⟩).1 (decNums (askN c.toNat) ⟨c.toNat, d.toNat, 0, 0, 0, 0, 0, []⟩ ⟨str (c :: d :: l), 2, none⟩).2 := by
              unfold decQ; rw [if_neg hnl, hdl]; simp [hk, hg, hL]
            rw [e]; exact refD_nums _ (by omega) c d l rfl hk hg hL _ rfl
          | true =>
            have hN : askN c.toNat = [] := by
              have h7 : c.toNat = 7 := by simpa [askL] using hL
              rw [h7]; rfl
            have e : decQ (str (c :: d :: l)) = leafQ (⟨c.toNat, d.toNat, 0, 0, 0, 0, 0, []⟩, ⟨str (c :: d :: l), 2, none⟩) := by
              unfold decQ leafQ; rw [if_neg hnl, hdl]; simp [hk, hg, hL, hN, decNums]
            rw [e]; exact refD_leaves _ (by omega) c d l rfl hk hg hL _ rfl
end Go.Proofs.YtljnhelnmnomoaaGreatDoor
