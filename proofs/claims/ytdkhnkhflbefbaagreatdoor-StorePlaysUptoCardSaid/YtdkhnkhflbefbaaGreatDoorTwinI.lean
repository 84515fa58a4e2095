/- The statements' copies of numbers: markInt, isInt, TwinInts, SameInts, LeftInts by contracts. -/
import Derived.Test.YtdkhnkhflbefbaaGreatDoorRst
namespace Go.Proofs.YtdkhnkhflbefbaaGreatDoor
open Go.RowKit Go.Lib

theorem markInt_spare (w : World) : Calls Tryz.prog 14 #[.int .i64 7777] w fun e w' => e = .returned (.int .i64 (-8777)) ∧ w = w' := by
  go_enter Tryz.func14, Tryz.ntmps14
  go_wp2_with fail
  go_ret
  exact ⟨rfl, rfl⟩
theorem isInt_spare (w : World) : Calls Tryz.prog 23 #[.int .i64 (-8777), .int .i64 7777] w fun e w' => e = .returned (.bool true) ∧ w = w' := by
  go_enter Tryz.func23, Tryz.ntmps23
  go_wp2_with fail
  go_ret
  exact ⟨rfl, rfl⟩
/-- The copy's cells: k numbers of zs, and zeroes behind. -/
def twc (zs : List Int) (k : Nat) : List Value := (zs.take k).map (Value.int .i64) ++ List.replicate (zs.length + 1 - k) (.int .i64 0)
theorem twc_len (zs : List Int) (k : Nat) (h : k ≤ zs.length) : (twc zs k).length = zs.length + 1 := by
  unfold twc
  simp
  omega
theorem twc_succ (zs : List Int) (k : Nat) (h : k < zs.length) : (twc zs k).toArray.setIfInBounds k (.int .i64 zs[k]) = (twc zs (k + 1)).toArray := by
  unfold twc
  rw [List.take_succ_eq_append_getElem h, List.map_append, List.append_assoc]
  obtain ⟨m, hm⟩ : ∃ m, zs.length + 1 - k = m + 1 := ⟨zs.length - k, by omega⟩
  rw [hm, show zs.length + 1 - (k + 1) = m by omega, List.replicate_succ, List.setIfInBounds_toArray]
  congr 1
  have hl : ((zs.take k).map (Value.int .i64)).length = k := by simp; omega
  rw [List.set_append_right _ _ (by omega), hl, Nat.sub_self]
  rfl
/-- The whole copy: the numbers and the mark. -/
def twAll (zs : List Int) : List Value := zs.map (Value.int .i64) ++ [.int .i64 (-8777)]
theorem twc_all (zs : List Int) : (twc zs zs.length).toArray.setIfInBounds zs.length (.int .i64 (-8777)) = (twAll zs).toArray := by
  unfold twc twAll
  rw [List.take_length, Nat.add_sub_cancel_left, List.setIfInBounds_toArray]
  congr 1
  rw [List.set_append_right _ _ (by simp), List.length_map, Nat.sub_self]
  rfl
def TwRel (zs : List Int) (g : Nat) (w : World) (iv : Value) (wr : World) : Prop := ∃ k : Nat, iv = .int .i64 k ∧ k ≤ zs.length ∧ wr.heap[g]? = some (.cells (twc zs k).toArray 3 (0, 0)) ∧ Ext w wr
set_option maxRecDepth 8000 in
set_option maxHeartbeats 4000000 in
theorem twinI_any (a : Option Addr) (zs : List Int) (cap : Nat) (w : World) (h : RdsAt w a zs) (hz : zs.length ≤ 4398046511104) :
    Calls Tryz.prog 5 #[.slice a zs.length cap] w fun e w' => ∃ g, e = .returned (.slice (some ⟨g, 0, none⟩) zs.length (zs.length + 1)) ∧ w'.heap[g]? = some (.cells (twAll zs).toArray 3 (0, 0)) ∧ w.heap.size ≤ g ∧ Ext w w' := by
  obtain ⟨i0, hi0, hz0, hz1, hz2⟩ := info_parts info_int
  have HR := Lib.hid h
  have HZ := Lib.hid hz
  have HMK := Lib.hid (show i0.bytes * (zs.length + 1) ≤ 281474976710656 ∧ zs.length + 1 ≤ maxLen by rw [hz2]; unfold maxLen; omega)
  clear h
  go_enter Tryz.func5, Tryz.ntmps5
  go_wp2_with (at_make; refine wpList_make_full _ rfl _ _ 22 rfl w.heap.size 3 i0 (.int .i64 0) 1 Tryz.underlying22 hi0 hz0 hz1 .i64 .i64 _ _ (zs.length + 1) rfl rfl rfl rfl HMK.out.1 HMK.out.2 (Nat.le_refl _) ?_)
  intro w2 hown hg
  obtain ⟨hblk, hlen⟩ := own_full (own_low hown (Nat.zero_le _))
  have e0 : (madeCells #[Value.int IntKind.i64 0] (zs.length + 1)).toList = twc zs 0 := by rw [toList_madeCells_one]; rfl
  rw [e0] at hblk
  have HB := Lib.hid hblk
  have HX := Lib.hid ((Upd.refl none' w).grown hg (fun k hk => by cases hk) : Ext w w2)
  clear hown hg hblk hlen e0
  generalize hgw : w.heap.size = g at HB ⊢
  have HGW := Lib.hid hgw
  clear hgw
  go_wp2_with fail
  go_loopw [4] (fun iv wr => TwRel zs g w iv wr) (fun iv _ => zs.length - (RowKit.intOf iv).toNat)
  case atStart => exact ⟨0, rfl, Nat.zero_le _, HB.out, HX.out⟩
  case round =>
    obtain ⟨k, rfl, hk, hb, hX⟩ := hrel
    have HB := Lib.hid hb
    have HX := Lib.hid hX
    clear hb hX
    by_cases hlt : k < zs.length
    · have hki : (k : Int) < zs.length := by omega
      have hki1 : (k : Int) < (zs.length : Int) + 1 := by omega
      obtain ⟨ga, off, rfl, ck⟩ := cell_int_at (HR.out.ext HX.out) k hlt
      have hl := twc_len zs k (Nat.le_of_lt hlt)
      have cg : wr.cell? ⟨g, k, none⟩ = some ((twc zs k)[k]'(by omega)) := by rw [cell_of_blk HB.out]; simp [List.getElem?_eq_getElem (show k < (twc zs k).length by omega)]
      have fg := free_of_blk HB.out k
      have hs := blk_set HB.out k (.int .i64 zs[k])
      rw [twc_succ zs k hlt] at hs
      have HS := Lib.hid hs
      have U := HX.out.setCell (p := ⟨g, k, none⟩) (.inl (by rw [HGW.out]; exact Nat.le_refl _)) (.int .i64 zs[k])
      have HU := Lib.hid U
      generalize (twc zs k)[k]'(by omega) = old at *
      clear hs U hl
      generalize zs[k] = x at *
      go_wp2_with fail
      go_roundw
      case rel => exact ⟨k + 1, by simp, by omega, HS.out, HU.out⟩
      case measure => simp [RowKit.intOf] <;> omega
    · obtain rfl : k = zs.length := by omega
      have hki : ¬ (zs.length : Int) < zs.length := by omega
      have hl := twc_len zs zs.length (Nat.le_refl _)
      have cg : wr.cell? ⟨g, zs.length, none⟩ = some ((twc zs zs.length)[zs.length]'(by omega)) := by rw [cell_of_blk HB.out]; simp [List.getElem?_eq_getElem (show zs.length < (twc zs zs.length).length by omega)]
      have fg := free_of_blk HB.out zs.length
      have hs := blk_set HB.out zs.length (.int .i64 (-8777))
      rw [twc_all zs] at hs
      have HS := Lib.hid hs
      have HU := Lib.hid (HX.out.setCell (p := ⟨g, zs.length, none⟩) (.inl (by rw [HGW.out]; exact Nat.le_refl _)) (.int .i64 (-8777)))
      have CM := markInt_spare wr
      generalize (twc zs zs.length)[zs.length]'(by omega) = old at *
      clear hs hl
      go_wp2_with fail
      refine CM.mono ?_
      rintro e w3 ⟨rfl, rfl⟩
      go_wp2_with fail
      go_ret
      exact ⟨g, rfl, HS.out, by rw [HGW.out]; exact Nat.le_refl _, HU.out⟩
set_option maxRecDepth 8000 in
set_option maxHeartbeats 4000000 in
theorem sameInts_any {w : World} {a b : Option Addr} {zs : List Int} (h1 : RdsAt w a zs) (h2 : RdsAt w b zs) (ca cb : Nat) (hz : zs.length ≤ 4398046511104) :
    Calls Tryz.prog 22 #[.slice a zs.length ca, .slice b zs.length cb] w fun e w' => e = .returned (.bool true) ∧ Ext w w' := by
  have H1 := Lib.hid h1
  have H2 := Lib.hid h2
  clear h1 h2
  go_enter Tryz.func22, Tryz.ntmps22
  go_wp2_with fail
  go_loopw [5] (fun iv wr => ∃ k : Nat, iv = .int .i64 k ∧ k ≤ zs.length ∧ Ext w wr) (fun iv _ => zs.length - (RowKit.intOf iv).toNat)
  case atStart => exact ⟨0, rfl, Nat.zero_le _, Upd.refl _ _⟩
  case round =>
    obtain ⟨k, rfl, hk, hx⟩ := hrel
    have HX := Lib.hid hx
    by_cases hlt : k < zs.length
    · obtain ⟨g1, o1, rfl, c1⟩ := cell_int_at (H1.out.ext hx) k hlt
      obtain ⟨g2, o2, rfl, c2⟩ := cell_int_at (H2.out.ext hx) k hlt
      have hki : (k : Int) < zs.length := by omega
      generalize zs[k] = t at *
      clear hx
      go_wp2_with fail
      go_quiet (fail)
      go_wp2_with fail
      exact ⟨⟨k + 1, by simp, by omega, HX.out.drewN _⟩, by simp [RowKit.intOf]; omega⟩
    · obtain rfl : k = zs.length := by omega
      clear hx
      have hki : ¬ (zs.length : Int) < zs.length := by omega
      go_wp2_with fail
      go_ret
      exact ⟨rfl, HX.out⟩
theorem twAll_rds {w : World} {g : Nat} {zs : List Int} (h : w.heap[g]? = some (.cells (twAll zs).toArray 3 (0, 0))) : RdsAt w (some ⟨g, 0, none⟩) zs ∧ w.cell? ⟨g, zs.length, none⟩ = some (.int .i64 (-8777)) := by
  refine ⟨fun i x hx => ⟨g, 0, rfl, ?_⟩, ?_⟩
  · rw [cell_of_blk h]
    obtain ⟨hi, hx2⟩ := List.getElem?_eq_some_iff.1 hx
    simp [twAll, List.getElem?_append, hi, hx2]
  · rw [cell_of_blk h]
    simp [twAll]
set_option maxRecDepth 8000 in
set_option maxHeartbeats 4000000 in
theorem leftI_any {w : World} {g : Nat} {b : Option Addr} {zs : List Int} (h : w.heap[g]? = some (.cells (twAll zs).toArray 3 (0, 0))) (h2 : RdsAt w b zs) (cb : Nat) (hz : zs.length ≤ 4398046511104) :
    Calls Tryz.prog 9 #[.slice (some ⟨g, 0, none⟩) zs.length (zs.length + 1), .slice b zs.length cb] w fun e w' => e = .returned (.bool true) ∧ Ext w w' := by
  have C := sameInts_any (twAll_rds h).1 h2 (zs.length + 1) cb hz
  have HB := Lib.hid h
  clear h h2
  go_enter Tryz.func9, Tryz.ntmps9
  go_wp2_with fail
  refine C.mono ?_
  rintro e w1 ⟨rfl, u⟩
  have cm := (twAll_rds (Ext.blk u HB.out)).2
  have HU := Lib.hid u
  have CI := isInt_spare w1
  have hki1 : (zs.length : Int) < (zs.length : Int) + 1 := by omega
  clear u C
  go_wp2_with fail
  refine CI.mono ?_
  rintro e w2 ⟨rfl, rfl⟩
  go_wp2_with fail
  go_ret
  exact ⟨rfl, HU.out⟩
end Go.Proofs.YtdkhnkhflbefbaaGreatDoor
