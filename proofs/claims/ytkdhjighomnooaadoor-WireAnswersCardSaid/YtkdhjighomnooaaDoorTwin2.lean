/- The statements' TwinHashes, TwinAnswer, LeftHashes, LeftAnswer. -/
import Derived.Test.YtkdhjighomnooaaDoorTwin
import Derived.Test.YtkdhjighomnooaaDoorDecAt
namespace Go.Proofs.YtkdhjighomnooaaDoor
open Go.RowKit Go.Lib

/-- The copy: the hashes, and the mark behind them. -/
def TwinAt (w : World) (g : Nat) (l : List (List UInt8)) : Prop := w.heap[g]? = some (.cells (hashCells l ++ markV).toArray 70 (0, 0))
theorem hcells_len (l : List (List UInt8)) (h : ∀ t ∈ l, t.length = 32) : (hashCells l).length = l.length * 32 := by
  unfold hashCells
  induction l with
  | nil => rfl
  | cons a t ih => rw [List.flatMap_cons, List.length_append, ih (fun x hx => h x (by simp [hx])), List.length_map, h a (by simp), List.length_cons]; omega
theorem TwinAt.hashes {w : World} {g : Nat} {l : List (List UInt8)} (h : TwinAt w g l) (hl : ∀ t ∈ l, t.length = 32) : HashesAt w (some ⟨g, 0, none⟩) l := fun i x hx => by
  have hx32 := hl x (List.mem_of_getElem? hx)
  refine ⟨hx32, g, 0, rfl, fun j u hu => ?_⟩
  have hj : j < 32 := by
    have := (List.getElem?_eq_some_iff.1 hu).1
    rw [List.length_map, hx32] at this; exact this
  have hi : i < l.length := (List.getElem?_eq_some_iff.1 hx).1
  rw [cell_of_blk h, List.getElem?_toArray, Nat.zero_add, List.getElem?_append_left (by rw [hcells_len l hl]; omega), hcells_at l hl i j x hx hj]
  exact hu
theorem TwinAt.mark {w : World} {g : Nat} {l : List (List UInt8)} (h : TwinAt w g l) (hl : ∀ t ∈ l, t.length = 32) (j : Nat) (u : Value) (hu : markV[j]? = some u) : w.cell? ⟨g, l.length * 32 + j, none⟩ = some u := by
  rw [cell_of_blk h, List.getElem?_toArray, List.getElem?_append_right (by rw [hcells_len l hl]; omega), hcells_len l hl, Nat.add_sub_cancel_left]
  exact hu
theorem over_mid (A R vs : List Value) : over (A ++ R) A.length vs = A ++ (vs ++ R.drop vs.length) := by
  unfold over
  rw [List.take_left, ← List.drop_drop, List.drop_left]
theorem info_hash' : (Tryd.prog.info? 70).map (fun i => (i.zero, i.size, i.bytes)) = some (some (.agg zero32), 32, 32) := by kernel_rfl

set_option maxRecDepth 8000 in
set_option maxHeartbeats 4000000 in
theorem twinH_any {w : World} {a : Option Addr} {l : List (List UInt8)} (h : HashesAt w a l) (hl : ∀ t ∈ l, t.length = 32) (ca : Nat) (hn : l.length ≤ 1048576) :
    Calls Tryd.prog 24 #[.slice a l.length ca] w fun e w' => e = .returned (.slice (some ⟨w.heap.size, 0, none⟩) l.length (l.length + 1)) ∧ TwinAt w' w.heap.size l ∧ Ext w w' := by
  obtain ⟨i0, hi0, hz0, hz1, hz2⟩ := info_parts info_hash'
  have HH := Lib.hid h
  have HL := Lib.hid hl
  have hb1 : 32 * (l.length + 1) ≤ 281474976710656 := by omega
  have hb2 : l.length + 1 ≤ maxLen := by unfold maxLen; omega
  have HB1 := Lib.hid (show i0.bytes * (l.length + 1) ≤ 281474976710656 by rw [hz2]; exact hb1)
  have HB2 := Lib.hid hb2
  have hni : (l.length : Int) ≤ 1048576 := by omega
  clear h hl hb1 hb2
  go_enter Tryd.func24, Tryd.ntmps24
  go_wp2_with (refine wpList_make_full _ rfl _ _ 24 rfl w.heap.size 70 i0 _ 32 Tryd.underlying24 hi0 hz0 hz1 .i64 .i64 (l.length + 1) (l.length + 1) (l.length + 1) rfl rfl (by simp) (by simp) HB1.out HB2.out (Nat.le_refl _) ?_)
  intro w1 hown hgrow
  have HE1 := Lib.hid ((Upd.refl none' w).grown hgrow (fun k hk => by cases hk))
  have hblk : ∃ R : List Value, R.length = (l.length + 1) * 32 ∧ w1.heap[w.heap.size]? = some (.cells R.toArray 70 (0, 0)) := by
    rcases hown.2 with ⟨hv, _⟩ | ⟨g, cap, cur, hv, hb, hg, hnc, hcm, hcs, ht⟩
    · cases hv
    · simp only [Value.slice.injEq, Option.some.injEq, Addr.mk.injEq, and_true, true_and] at hv
      obtain ⟨rfl, _, rfl⟩ := hv
      obtain ⟨cl⟩ := cur
      exact ⟨cl, by simpa using hcs, hg⟩
  obtain ⟨R, hR, hblk⟩ := hblk
  have HBK := Lib.hid hblk
  have HR := Lib.hid hR
  clear hown hgrow hblk hR
  go_wp2_with fail
  go_loopw [4] (fun iv wr => ∃ (j : Nat) (R : List Value), iv = .int .i64 j ∧ j ≤ l.length ∧ R.length = (l.length + 1 - j) * 32 ∧ wr.heap[w.heap.size]? = some (.cells (hashCells (l.take j) ++ R).toArray 70 (0, 0)) ∧ Ext w wr) (fun iv _ => l.length - (RowKit.intOf iv).toNat)
  case atStart => exact ⟨0, R, rfl, Nat.zero_le _, by rw [HR.out]; omega, by simpa [hashCells] using HBK.out, HE1.out⟩
  case round =>
    obtain ⟨j, R2, rfl, hj, hr2, hb, u⟩ := hrel
    have HU := Lib.hid u
    have HB := Lib.hid hb
    have HR2 := Lib.hid hr2
    clear u hb hr2
    have htl : (hashCells (l.take j)).length = j * 32 := by rw [hcells_len _ (fun t ht => HL.out t (List.mem_of_mem_take ht)), List.length_take]; omega
    have HTL := Lib.hid htl
    clear htl
    by_cases hlt : j < l.length
    · have hg := List.getElem?_eq_getElem hlt
      obtain ⟨hh, b, o, rfl, hc⟩ := (HH.out.later HU.out) j _ hg
      have hlti : (j : Int) < l.length := by omega
      have hlt1 : (j : Int) < l.length + 1 := by omega
      have HG := Lib.hid hg
      generalize l[j] = t at *
      have HSZ := Lib.hid (hash_size32 t hh)
      have H1 := Lib.hid (hash_one t)
      have HC := Lib.hid (fun (i : Nat) (u : Value) (hu : (t.map u8v)[i]? = some u) => show wr.cell? ⟨b, o + j * 32 + i, none⟩ = some u by rw [Nat.add_assoc]; exact hc i u hu)
      have HFIT := Lib.hid (show j * 32 + (t.map u8v).length ≤ (hashCells (l.take j) ++ R2).length by rw [List.length_append, HTL.out, List.length_map, hh, HR2.out]; omega)
      have hov : over (hashCells (l.take j) ++ R2) (j * 32) (t.map u8v) = hashCells (l.take (j + 1)) ++ R2.drop 32 := by
        have := over_mid (hashCells (l.take j)) R2 (t.map u8v)
        rw [HTL.out, List.length_map, hh] at this
        rw [this, List.take_add_one, HG.out]
        simp [hashCells]
      have HOV := Lib.hid hov
      have hblk2 := Lib.hid (blk_setRow HB.out (hashCells (l.take (j + 1)) ++ R2.drop 32).toArray)
      have HU2 := Lib.hid (HU.out.setRow (.inl (Nat.le_refl _)) (g := w.heap.size) (hashCells (l.take (j + 1)) ++ R2.drop 32).toArray)
      clear hc hg hov
      go_wp2_with (first
        | (refine wpList_loadAgg rfl 70 _ rfl b (o + j * 32) rfl (t.map u8v) Tryd.underlying70 rfl HSZ.out HC.out ?_)
        | (refine wpList_storeAgg rfl 70 _ _ rfl w.heap.size (j * 32) (by go_simp; all_goals exact rfl) (t.map u8v) rfl HSZ.out (hashCells (l.take j) ++ R2) 70 HB.out HFIT.out H1.out ?_; rw [HOV.out]))
      exact ⟨⟨j + 1, R2.drop 32, by simp, by omega, by rw [List.length_drop, HR2.out]; omega, hblk2.out, HU2.out⟩, by simp [RowKit.intOf]; omega⟩
    · obtain rfl : j = l.length := by omega
      have hlt1 : (l.length : Int) < l.length + 1 := by omega
      have hb2 := HB.out
      rw [List.take_length] at hb2
      have htl := HTL.out
      rw [List.take_length] at htl
      have CM := mark_any wr
      rw [markV_is] at CM
      have HB := Lib.hid hb2
      have HTL := Lib.hid htl
      have HO := Lib.hid mark_one
      clear hb2 htl
      go_wp2_with fail
      refine CM.mono ?_
      rintro e w2 ⟨rfl, u⟩
      have HB3 := Lib.hid (Ext.blk u HB.out)
      have HU3 := Lib.hid (HU.out.trans u)
      have HFIT := Lib.hid (show l.length * 32 + markV.length ≤ (hashCells l ++ R2).length by rw [List.length_append, HTL.out, HR2.out]; show l.length * 32 + 32 ≤ _; omega)
      have hov : over (hashCells l ++ R2) (l.length * 32) markV = hashCells l ++ markV := by
        have := over_mid (hashCells l) R2 markV
        rw [HTL.out] at this
        rw [this, List.drop_of_length_le (by rw [HR2.out]; show _ ≤ 32; omega), List.append_nil]
      have HOV := Lib.hid hov
      have hfin : Hid (TwinAt (w2.setRow w.heap.size (hashCells l ++ markV).toArray) w.heap.size l) := Lib.hid (blk_setRow HB3.out (hashCells l ++ markV).toArray)
      have HU4 := Lib.hid (HU3.out.setRow (.inl (Nat.le_refl _)) (g := w.heap.size) (hashCells l ++ markV).toArray)
      clear u CM hov
      go_wp2_with (refine wpList_storeAgg rfl 70 _ _ rfl w.heap.size (l.length * 32) (by go_simp; all_goals exact rfl) markV rfl hash_size' (hashCells l ++ R2) 70 HB3.out HFIT.out HO.out ?_; rw [HOV.out])
      go_ret
      exact ⟨rfl, hfin.out, HU4.out⟩
end Go.Proofs.YtkdhjighomnooaaDoor
