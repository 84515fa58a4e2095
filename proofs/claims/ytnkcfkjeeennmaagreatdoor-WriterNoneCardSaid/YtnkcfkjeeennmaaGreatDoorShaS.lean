/- sha.New, Copy, Sum by contracts. (*sha.Digest).Sum by contract. -/
import Derived.Test.YtnkcfkjeeennmaaGreatDoorShaD
import Derived.Test.YtnkcfkjeeennmaaGreatDoorCode
namespace Go.Proofs.YtnkcfkjeeennmaaGreatDoor
open Go.RowKit Go.Lib


set_option maxRecDepth 20000 in
theorem new_any (w : World) : Calls Tryz.prog 138 #[] w fun e w' => e = .returned (.pointer (some ⟨w.heap.size + 1, 0, none⟩)) ∧ DigS w.heap.size w' (w.heap.size + 1) w.heap.size (.slice none 0 0) 0 shaStart [] ∧ Ext w w' := by
  have h1 := blk_alloc w (.cells (u32C shaStart).toArray 273)
  have h2 := blk_alloc_lt h1 (.cells #[.pointer (some ⟨w.heap.size, 0, none⟩), .slice none 0 0, .int .u64 0] 275)
  have h3 := blk_alloc (w.alloc (.cells (u32C shaStart).toArray 273)) (.cells #[.pointer (some ⟨w.heap.size, 0, none⟩), .slice none 0 0, .int .u64 0] 275)
  rw [World.size_alloc] at h3
  have X := Lib.hid (((Upd.refl none' w).alloc (.cells (u32C shaStart).toArray 273)).alloc (.cells #[.pointer (some ⟨w.heap.size, 0, none⟩), .slice none 0 0, .int .u64 0] 275))
  have H2 := Lib.hid h2
  have H3 := Lib.hid h3
  clear h1 h2 h3
  go_enter Tryz.func138, Tryz.ntmps138
  go_wp2_with fail
  go_ret
  exact ⟨rfl, ⟨H3.out, H2.out, World.ownsRow_nil _ _ _ _, rfl, by omega, Nat.le_refl _⟩, X.out⟩
theorem CellsAt.own {w : World} {B e n : Nat} {A : Option Addr} {c : Nat} {xs : List Value} (h : w.ownsRow B e 1 (.slice A n c) n xs) : CellsAt w A xs := by
  rcases own_form h with ⟨hv, h0⟩ | ⟨g, cap, hv, _⟩
  · have : xs = [] := List.length_eq_zero_iff.1 (by have := h.1; omega)
    subst this
    exact CellsAt.nil _ _
  · simp only [Value.slice.injEq, true_and] at hv
    obtain ⟨rfl, rfl⟩ := hv
    exact CellsAt.row h
set_option maxRecDepth 20000 in
set_option maxHeartbeats 4000000 in
theorem copy_any {B : Nat} {w : World} {db hb : Nat} {rv : Value} {n : Nat} {hs : List Int} {r : List UInt8} (D : DigS B w db hb rv n hs r) (hr : r.length < 64) :
    Calls Tryz.prog 174 #[.pointer (some ⟨db, 0, none⟩)] w fun e w' => ∃ db2 hb2 rv2, e = .returned (.pointer (some ⟨db2, 0, none⟩)) ∧ DigS w.heap.size w' db2 hb2 rv2 n hs r ∧ Ext w w' := by
  obtain ⟨i0, hi0, hz0, hz1, hz2⟩ := info_parts info_u8
  obtain ⟨RA, rc, rfl⟩ := own_sl D.row
  have HD := Lib.hid D
  have b0 : w.cell? ⟨db, 0, none⟩ = some (.pointer (some ⟨hb, 0, none⟩)) := cell_of_blk D.blk 0
  have b1 : w.cell? ⟨db, 1, none⟩ = some (.slice RA r.length rc) := cell_of_blk D.blk 1
  have b2 : w.cell? ⟨db, 2, none⟩ = some (.int .u64 (n : Int)) := cell_of_blk D.blk 2
  obtain ⟨h0, h1, h2, h3, h4, h5, h6, h7, rfl⟩ : ∃ h0 h1 h2 h3 h4 h5 h6 h7, hs = [h0, h1, h2, h3, h4, h5, h6, h7] := by
    have := D.len
    match hs, this with
    | [a, b, c, d, e, f, g, h], _ => exact ⟨a, b, c, d, e, f, g, h, rfl⟩
  have c0 := u32_cell D.hblk 0 (by simp)
  have c1 := u32_cell D.hblk 1 (by simp)
  have c2 := u32_cell D.hblk 2 (by simp)
  have c3 := u32_cell D.hblk 3 (by simp)
  have c4 := u32_cell D.hblk 4 (by simp)
  have c5 := u32_cell D.hblk 5 (by simp)
  have c6 := u32_cell D.hblk 6 (by simp)
  have c7 := u32_cell D.hblk 7 (by simp)
  simp only [List.getD_cons_zero, List.getD_cons_succ] at c0 c1 c2 c3 c4 c5 c6 c7
  clear D
  have HSRC := Lib.hid (CellsAt.own HD.out.row)
  have H1 := Lib.hid (u8_ones r)
  have HLN := Lib.hid (show (r.map u8v).length = r.length * 1 by simp)
  have HM := Lib.hid (show 0 + r.length ≤ maxLen ∧ (0 + r.length) * 1 ≤ 140737488355328 by unfold maxLen; omega)
  have hlt := lt_of_blk HD.out.blk
  have hlt2 := lt_of_blk HD.out.hblk
  go_enter Tryz.func174, Tryz.ntmps174
  go_wp2_with fail
  have HB4 := Lib.hid (blk_alloc w (.cells #[.int .u32 h0, .int .u32 h1, .int .u32 h2, .int .u32 h3, .int .u32 h4, .int .u32 h5, .int .u32 h6, .int .u32 h7] 273))
  have HX := Lib.hid ((Upd.refl none' w).alloc (.cells #[.int .u32 h0, .int .u32 h1, .int .u32 h2, .int .u32 h3, .int .u32 h4, .int .u32 h5, .int .u32 h6, .int .u32 h7] 273))
  generalize w.alloc (.cells #[.int .u32 h0, .int .u32 h1, .int .u32 h2, .int .u32 h3, .int .u32 h4, .int .u32 h5, .int .u32 h6, .int .u32 h7] 273) = W at *
  have b1 : W.cell? ⟨db, 1, none⟩ = some (.slice RA r.length rc) := Ext.cellv HX.out b1
  have b2 : W.cell? ⟨db, 2, none⟩ = some (.int .u64 (n : Int)) := Ext.cellv HX.out b2
  have HSRC := Lib.hid (HSRC.out.ext (HX.out.drew))
  have HBW := Lib.hid (show w.heap.size ≤ W.drew.heap.size from HX.out.size)
  have HQ := Lib.hid (fun (w1 : World) (e1 : Ext W.drew w1) => show w1.cell? ⟨db, 2, none⟩ = some (.int .u64 (n : Int)) from Ext.cellv e1 b2)
  go_region_law (refine step_appX (by rfl) _ _ 165 (by rfl) w.heap.size 5 i0 _ 1 1 Tryz.underlying165 hi0 hz0 hz1 hz2 rfl (by decide) (.slice none 0 0) 0 [] (by rfl) (World.ownsRow_nil _ _ _ _) RA r.length rc (r.map u8v) (by rfl) HLN.out HSRC.out H1.out HM.out.1 HM.out.2 HBW.out ?_; intro A' c' w1 hown hgrow hat; have e1 := (Upd.refl none' W.drew).grown hgrow (fun k hk => by cases hk); have x0 := HQ.out w1 e1)
  all_goals
    simp only [Nat.zero_add, List.nil_append] at hown
    have hq := blk_alloc w1 (.cells #[.pointer (some ⟨w.heap.size, 0, none⟩), .slice A' r.length c', .int .u64 (n : Int)] 275)
    have X1 := (Upd.refl none' w1).alloc (.cells #[.pointer (some ⟨w.heap.size, 0, none⟩), .slice A' r.length c', .int .u64 (n : Int)] 275)
    have hh := Ext.blk X1 (Ext.blk e1 (Ext.blk ((Upd.refl none' W).drew) HB4.out))
    have ho := ownsRow_upd hown X1 (fun _ _ => id)
    have hsz := Nat.le_trans HX.out.size e1.size
    have HFIN := Lib.hid (show DigS w.heap.size _ w1.heap.size w.heap.size (.slice A' r.length c') n [h0, h1, h2, h3, h4, h5, h6, h7] r from ⟨hq, hh, ho, rfl, hsz, Nat.le_refl _⟩)
    have HX2 := Lib.hid ((HX.out.drew.trans e1).trans X1)
    clear hq hh ho hsz X1 e1 x0 hown hgrow hat
    go_wp2_with fail
    go_ret
    exact ⟨_, _, _, rfl, HFIN.out, HX2.out⟩

theorem DigS.lt {B : Nat} {w : World} {db hb : Nat} {rv : Value} {n : Nat} {hs : List Int} {r : List UInt8} (h : DigS B w db hb rv n hs r) : ∀ g, fpG db hb rv g → g < w.heap.size := fun g hg => by
  rcases hg with rfl | rfl | e
  · exact lt_of_blk h.blk
  · exact lt_of_blk h.hblk
  · exact (h.row.lt g e).2
theorem DigS.weaken {B B' : Nat} {w : World} {db hb : Nat} {rv : Value} {n : Nat} {hs : List Int} {r : List UInt8} (h : DigS B w db hb rv n hs r) (hB : B' ≤ B) : DigS B' w db hb rv n hs r :=
  ⟨h.blk, h.hblk, ownLow h.row hB, h.len, Nat.le_trans hB h.lo1, Nat.le_trans hB h.lo2⟩
theorem CellsAt.new (w : World) (cs : List Value) (t : TypeId) : CellsAt (w.alloc (.cells cs.toArray t)) (some ⟨w.heap.size, 0, none⟩) cs := fun j v hv => ⟨_, rfl, by
  rw [Addr.add_lit, cell_of_blk (blk_alloc w _)]; simpa using hv⟩
def byteI (y : Int) : UInt8 := UInt8.ofNat (y % 256).toNat
theorem u8v_byteI (y : Int) : u8v (byteI y) = .int .u8 (y % 256) := by
  unfold byteI
  have h1 := Int.emod_nonneg y (b := 256) (by decide)
  have h2 := Int.emod_lt_of_pos y (b := 256) (by decide)
  have : (UInt8.ofNat (y % 256).toNat).toNat = (y % 256).toNat := by rw [UInt8.toNat_ofNat']; omega
  simp only [u8v, this]
  congr 1
  omega
def outI (hs : List Int) (i : Nat) : UInt8 := byteI (hs.getD (i / 4) 0 / 2 ^ (24 - i % 4 * 8))
def outC (hs : List Int) (m : Nat) : List UInt8 := (List.range 32).map (fun i => if i < m then outI hs i else 0)
/-- A hash out of its words. -/
def outB (hs : List Int) : List UInt8 := outC hs 32
def lenB (n : Nat) : List UInt8 := (List.range 8).map (fun m => byteI ((n * 8 : Nat) / 2 ^ (56 - 8 * m)))
/-- What comes behind the bytes. -/
def finB (r n : Nat) : List UInt8 := 128 :: (List.replicate ((119 - r) % 64) 0 ++ lenB n)
theorem outC_len (hs : List Int) (m : Nat) : (outC hs m).length = 32 := by simp [outC]
theorem outC_set (hs : List Int) (m : Nat) (hm : m < 32) (v : Value) (hv : u8v (outI hs m) = v) : ((outC hs m).map u8v).toArray.setIfInBounds m v = ((outC hs (m + 1)).map u8v).toArray := by
  subst hv
  rw [List.setIfInBounds_toArray]
  congr 1
  rw [← List.map_set]
  congr 1
  apply List.ext_getElem?
  intro i
  rw [List.getElem?_set, outC_len]
  by_cases hi : i < 32
  · by_cases hki : m = i
    · subst hki
      simp [outC, hi]
    · rw [if_neg hki]
      have : (i < m + 1) = (i < m) := by simp; omega
      simp [outC, hi, this]
  · rw [if_neg (by omega), List.getElem?_eq_none (by rw [outC_len]; omega), List.getElem?_eq_none (by rw [outC_len]; omega)]
theorem outC_zero (hs : List Int) : (outC hs 0).map u8v = zero32.toList := rfl
theorem lenB_len (n : Nat) : (lenB n).length = 8 := by simp [lenB]
theorem finB_len (r n : Nat) : (finB r n).length = (119 - r) % 64 + 9 := by simp [finB, lenB_len]
def ZrRel (B : Nat) (z : Nat) (w : World) (v : Value) (wr : World) : Prop :=
  ∃ j : Nat, j ≤ z ∧ wr.ownsRow B 5 1 v (1 + j) ((128 :: List.replicate j 0).map u8v) ∧ Ext w wr
def LnRel (B : Nat) (n z : Nat) (w : World) (v iv : Value) (wr : World) : Prop :=
  ∃ (m : Nat) (i : Int), m ≤ 8 ∧ i = 56 - 8 * (m : Int) ∧ iv = .int .i64 i ∧ wr.ownsRow B 5 1 v (1 + z + m) ((128 :: (List.replicate z 0 ++ (lenB n).take m)).map u8v) ∧ Ext w wr
def OutRel (g : Nat) (hs : List Int) (w : World) (iv : Value) (wr : World) : Prop :=
  ∃ k : Nat, k ≤ 8 ∧ iv = .int .i64 k ∧ wr.heap[g]? = some (.cells ((outC hs (4 * k)).map u8v).toArray 30 (0, 0)) ∧ Upd (one g) w wr
set_option maxRecDepth 20000 in
set_option maxHeartbeats 8000000 in
theorem dsum_any {B : Nat} {w : World} {db hb : Nat} {rv : Value} {n : Nat} {hs : List Int} {r : List UInt8} (D : DigS B w db hb rv n hs r) (hr : r.length < 64) (hB : B ≤ w.heap.size) (hG : 21 < B) (htab : ShaTab w) (hn : n < 144115188075855872) :
    Calls Tryz.prog 140 #[.pointer (some ⟨db, 0, none⟩)] w fun e w' => e = .returned (.agg ((outB (abs hs (r ++ finB r.length n))).map u8v).toArray) ∧ Ext w w' := by
  obtain ⟨i0, hi0, hz0, hz1, hz2⟩ := info_parts info_u8
  obtain ⟨RA, rc, rfl⟩ := own_sl D.row
  have X0 := (Upd.refl none' w).alloc (.cells (List.replicate 32 (Value.int .u8 0)).toArray 30)
  have C := copy_any (D.ext X0) hr
  have HD := Lib.hid D
  have HX0 := Lib.hid X0
  have HQ0 := Lib.hid (blk_alloc w (.cells (List.replicate 32 (Value.int .u8 0)).toArray 30))
  have HT := Lib.hid (htab.ext X0)
  have HB := Lib.hid hB
  have b0 : w.cell? ⟨db, 0, none⟩ = some (.pointer (some ⟨hb, 0, none⟩)) := cell_of_blk D.blk 0
  have hlt := lt_of_blk HD.out.blk
  clear D X0 htab hB
  go_enter Tryz.func140, Tryz.ntmps140
  go_wp2_with fail
  refine C.mono ?_
  rintro e w2 ⟨db2, hb2, rv2, rfl, hd2, hx2⟩
  have HX2 := Lib.hid (HX0.out.trans hx2)
  have HD2 := Lib.hid (hd2.weaken (B' := w.heap.size) HX0.out.size)
  have HT2 := Lib.hid (HT.out.ext hx2)
  have HLOW := Lib.hid (fun g h => (by have := hd2.low g h; rw [World.size_alloc] at this; exact this : w.heap.size + 1 ≤ g))
  have HD1 := Lib.hid ((HD.out.ext HX0.out).ext hx2)
  have HQ2 := Lib.hid (Ext.blk hx2 HQ0.out)
  have b2 : w2.cell? ⟨db, 2, none⟩ = some (.int .u64 (n : Int)) := cell_of_blk HD1.out.blk 2
  have hn8 : (n : Int) * 8 < 1152921504606846976 := by omega
  have HRR := Lib.hid hr
  have HNN := Lib.hid hn
  clear C hd2 hx2 HQ0 b0
  generalize hgQ : w.heap.size = qb at *
  have HQB := Lib.hid hgQ
  clear hgQ
  go_wp2_with fail
  go_loopw [5] (fun v wr => ZrRel w2.heap.size ((119 - r.length) % 64) w2 v wr) (fun v _ => 80 - lenOf2 v)
  case atStart => exact ⟨0, Nat.zero_le _, ⟨rfl, .inr ⟨w2.heap.size, 1, _, rfl, Nat.le_refl _, blk_alloc w2 _, Nat.le_refl _, by unfold maxLen; omega, rfl, rfl⟩⟩, (Upd.refl none' w2).alloc _⟩
  case round =>
    obtain ⟨j, hj, ho, hx⟩ := hrel
    have HX := Lib.hid hx
    have HO := Lib.hid ho
    have b1 : wr.cell? ⟨db, 1, none⟩ = some (.slice RA r.length rc) := Ext.cellv hx (cell_of_blk HD1.out.blk 1)
    rcases own_form ho with ⟨_, h0⟩ | ⟨g, c, rfl, hgb⟩
    · omega
    have hr2 : r.length < 64 := HRR.out
    have HGB := Lib.hid hgb
    clear ho hx hgb
    generalize hm : 1 + j = m at *
    have HM := Lib.hid hm
    have hm1 : (m : Int) ≤ 65 := by omega
    have hm0 : (0 : Int) < m := by omega
    by_cases hlt : j < (119 - r.length) % 64
    · have ht : (((r.length : Int) + m) % 64 != 56) = true := by simp; omega
      have HOa := Lib.hid (ownsRow_upd HO.out ((Upd.refl none' wr).alloc (.cells #[.int .u8 0] 5)) (fun _ _ => id))
      have HBa := Lib.hid (show w2.heap.size ≤ (wr.alloc (.cells #[.int .u8 0] 5)).heap.size from Nat.le_trans HX.out.size ((Upd.refl none' wr).alloc _).size)
      have HL := Lib.hid (show m + 1 ≤ maxLen ∧ (m + 1) * 1 ≤ 140737488355328 by unfold maxLen; omega)
      have HLT := Lib.hid hlt
      clear hm hlt hj
      go_wp2_with (at_builtin; refine wpList_appX rfl _ _ 165 rfl w2.heap.size 5 i0 _ 1 1 Tryz.underlying165 hi0 hz0 hz1 hz2 rfl (by decide) _ m _ rfl HOa.out (some ⟨wr.heap.size, 0, none⟩) 1 1 [.int .u8 0] rfl rfl (CellsAt.new wr _ _) (by intro u hu; simp at hu; subst hu; rfl) HL.out.1 HL.out.2 HBa.out ?_; intro A' c' w5 hown hgrow hat; have HOWN := Lib.hid hown; have HU5 := Lib.hid ((HX.out.alloc (.cells #[.int .u8 0] 5)).grown hgrow (fun k hk => .inl (HOa.out.lt k hk).1)); clear hown hgrow hat)
      refine ⟨⟨j + 1, by have := HLT.out; omega, ?_, HU5.out⟩, by simp [lenOf2]; omega⟩
      have h := HOWN.out
      have e : (128 :: List.replicate (j + 1) (0 : UInt8)).map u8v = (128 :: List.replicate j (0 : UInt8)).map u8v ++ [.int .u8 0] := by
        rw [List.replicate_succ', List.map_cons, List.map_append, List.map_cons]; rfl
      rw [e, show 1 + (j + 1) = m + 1 by have := HM.out; omega]
      exact h
    · have HJ := Lib.hid (show j = (119 - r.length) % 64 by omega)
      have ht : (((r.length : Int) + m) % 64 != 56) = false := by simp; omega
      clear hm hlt hj
      go_wp2_with fail
      have HO2 := Lib.hid (show wr.ownsRow w2.heap.size 5 1 (.slice (some ⟨g, 0, none⟩) m c) (1 + (119 - r.length) % 64 + 0) ((128 :: (List.replicate ((119 - r.length) % 64) 0 ++ (lenB n).take 0)).map u8v) from by
        have h := HO.out
        rw [← HJ.out, HM.out]
        simpa using h)
      obtain ⟨w3, hw3⟩ : ∃ w3 : World, w3 = wr := ⟨_, rfl⟩
      subst hw3
      have HZ := Lib.hid (show (119 - r.length) % 64 < 64 from Nat.mod_lt _ (by decide))
      have HZE := Lib.hid (show finB r.length n = 128 :: (List.replicate ((119 - r.length) % 64) 0 ++ lenB n) from rfl)
      generalize (119 - r.length) % 64 = z at *
      go_loopw [5, 6] (fun v iv wr => LnRel w2.heap.size n z w2 v iv wr) (fun _ iv _ => (RowKit.intOf iv + 8).toNat)
      case atStart => exact ⟨0, 56, by omega, by omega, rfl, HO2.out, HX.out⟩
      case round =>
        obtain ⟨p, i, hp, hi, rfl, ho, hx⟩ := hrel
        have HI := Lib.hid hi
        have HX := Lib.hid hx
        have HO := Lib.hid ho
        rcases own_form ho with ⟨_, h0⟩ | ⟨g, c, rfl, hgb⟩
        · omega
        have HGB := Lib.hid hgb
        clear ho hx hgb
        generalize hm : 1 + z + p = m at *
        have HM := Lib.hid hm
        have HNN2 := HNN.out
        have hzz := HZ.out
        by_cases hlt : p < 8
        · have hpi : (0 : Int) ≤ i := by omega
          have hpj : i ≤ 56 := by omega
          have HPT := Lib.hid (show i.toNat = 56 - 8 * p by omega)
          have HP := Lib.hid hp
          have hlt2 := hlt
          have hval : u8v (byteI ((n * 8 : Nat) / 2 ^ (56 - 8 * p))) = .int .u8 ((n : Int) * 8 / 2 ^ i.toNat % 256) := by rw [u8v_byteI, HPT.out]; simp
          have HV := Lib.hid hval
          have hgl : (lenB n).take (p + 1) = (lenB n).take p ++ [byteI ((n * 8 : Nat) / 2 ^ (56 - 8 * p))] := by
            rw [List.take_succ_eq_append_getElem (by rw [lenB_len]; exact hlt)]
            simp [lenB]
          have HGL := Lib.hid hgl
          clear hval hgl hm hi hp hlt hlt2
          have HOa := Lib.hid (ownsRow_upd HO.out ((Upd.refl none' wr).alloc (.cells #[.int .u8 ((n : Int) * 8 / 2 ^ i.toNat % 256)] 5)) (fun _ _ => id))
          have HBa := Lib.hid (show w2.heap.size ≤ (wr.alloc (.cells #[.int .u8 ((n : Int) * 8 / 2 ^ i.toNat % 256)] 5)).heap.size from Nat.le_trans HX.out.size ((Upd.refl none' wr).alloc _).size)
          have HL := Lib.hid (show m + 1 ≤ maxLen ∧ (m + 1) * 1 ≤ 140737488355328 by have := HM.out; have := HP.out; unfold maxLen; omega)
          go_wp2_with (at_builtin; refine wpList_appX rfl _ _ 165 rfl w2.heap.size 5 i0 _ 1 1 Tryz.underlying165 hi0 hz0 hz1 hz2 rfl (by decide) _ m _ rfl HOa.out (some ⟨wr.heap.size, 0, none⟩) 1 1 [.int .u8 ((n : Int) * 8 / 2 ^ i.toNat % 256)] rfl rfl (CellsAt.new wr _ _) (by intro u hu; simp at hu; subst hu; rfl) HL.out.1 HL.out.2 HBa.out ?_; intro A' c' w5 hown hgrow hat; have HOWN := Lib.hid hown; have HU5 := Lib.hid ((HX.out.alloc (.cells #[.int .u8 ((n : Int) * 8 / 2 ^ i.toNat % 256)] 5)).grown hgrow (fun k hk => .inl (HOa.out.lt k hk).1)); clear hown hgrow hat)
          go_roundw
          case rel =>
            refine ⟨p + 1, _, by have := HI.out; omega, by have := HI.out; omega, rfl, ?_, HU5.out⟩
            have h := HOWN.out
            rw [← List.singleton_append, ← HV.out] at h
            rw [HGL.out, ← List.append_assoc, ← List.cons_append, List.map_append, show 1 + z + (p + 1) = m + 1 by have := HM.out; omega]
            simpa using h
          case measure => simp [RowKit.intOf]; omega
        · have HP := Lib.hid (show p = 8 by omega)
          have hpi : ¬ ((0 : Int) ≤ i) := by omega
          clear hlt hp hm hi
          have hx1 := HX.out
          have HDr := Lib.hid (HD2.out.ext hx1)
          have hsrc : CellsAt wr (some ⟨g, 0, none⟩) ((finB r.length n).map u8v) := by
            have h := CellsAt.row HO.out
            rw [HP.out, List.take_of_length_le (by rw [lenB_len]; exact Nat.le_refl _)] at h
            rw [HZE.out]; exact h
          have hfl : (finB r.length n).length = m := by rw [HZE.out]; have := HM.out; have := HP.out; simp [lenB_len]; omega
          have hgb2 := HGB.out
          have C := write_any HDr.out HRR.out (by have := HQB.out; have := HX2.out.size; have := hx1.size; omega) (by have := HD.out.lo1; have := HB.out; have := HQB.out; omega) (HT2.out.ext hx1) g 0 (finB r.length n) c (by rw [hfl]; exact own_cap HO.out) hsrc (fun e => by have := HD2.out.lt g e; omega) (by rw [hfl]; have := HM.out; have := HNN.out; have := HP.out; have := HZ.out; omega) (by rw [hfl]; have := HM.out; have := HP.out; have := HZ.out; omega)
          have HFL := Lib.hid hfl
          have HX3 := Lib.hid (HX2.out.trans hx1)
          have HQ3 := Lib.hid (Ext.blk hx1 HQ2.out)
          have HLT3 := Lib.hid (fun g h => Nat.lt_of_lt_of_le (HD2.out.lt g h) hx1.size)
          have HLO3 := Lib.hid (HD2.out.low)
          rw [hfl] at C
          clear hfl hsrc hgb2 hx1
          go_wp2_with fail
          refine C.mono ?_
          rintro e w6 ⟨rfl, rv6, hd6, _, u6⟩
          have HD6 := Lib.hid hd6
          have HX6 := Lib.hid (show Ext w w6 from HX3.out.then u6 (fun b hb2 e => by have := HLO3.out b e; have := HQB.out; omega))
          have hnq : ¬ fpG db2 hb2 rv2 qb := fun e => by have := HLOW.out qb e; omega
          have HQ6 := Lib.hid (u6.blk HQ3.out hnq)
          have b06 : w6.cell? ⟨db2, 0, none⟩ = some (.pointer (some ⟨hb2, 0, none⟩)) := cell_of_blk hd6.blk 0
          have hlt6 := lt_of_blk hd6.blk
          have hlt7 := lt_of_blk hd6.hblk
          clear hd6 u6 hnq C
          go_wp2_with fail
          have HLEN8 := Lib.hid HD6.out.len
          have HQ7 := Lib.hid (show (w6.alloc (.cells zero32 30)).heap[w6.heap.size]? = some (.cells ((outC (abs hs (r ++ finB r.length n)) (4 * 0)).map u8v).toArray 30 (0, 0)) from blk_alloc w6 _)
          have HX7 := Lib.hid (show Ext w6 (w6.alloc (.cells zero32 30)) from (Upd.refl none' w6).alloc _)
          have HH7 := Lib.hid (Ext.blk HX7.out HD6.out.hblk)
          have HO7 := Lib.hid (Ext.blk HX7.out HQ6.out)
          have HX0' := Lib.hid (HX6.out.trans HX7.out)
          have HNE := Lib.hid (show hb2 ≠ w6.heap.size from by omega)
          have HNE2 := Lib.hid (show qb ≠ w6.heap.size from by have := lt_of_blk HQ6.out; omega)
          generalize habs : abs hs (r ++ finB r.length n) = hs6 at *
          have HABS := Lib.hid habs
          clear habs
          generalize w6.alloc (.cells zero32 30) = w7 at *
          generalize hq6 : w6.heap.size = q at *
          have HQQ := Lib.hid (show w.heap.size ≤ q by have := HX6.out.size; omega)
          clear hq6
          go_loopw [59] (fun iv wr => OutRel q hs6 w7 iv wr) (fun iv _ => 8 - (RowKit.intOf iv).toNat)
          case atStart => exact ⟨0, by omega, rfl, HQ7.out, Upd.refl _ _⟩
          case round =>
            obtain ⟨k, hk, rfl, hq, hu⟩ := hrel
            have HQ := Lib.hid hq
            have HU := Lib.hid hu
            have HW := Lib.hid (hu.blk HH7.out HNE.out)
            clear hq hu
            by_cases hlt : k < 8
            · have hki : (k : Int) < 8 := by omega
              have ck := u32_cell HW.out k (by rw [HLEN8.out]; exact hlt)
              have m0 : IntKind.i64.wrap (4 * (k : Int)) = 4 * k := by simp [IntKind.wrap, IntKind.bits, IntKind.signed]; omega
              have m1 : IntKind.i64.wrap (4 * (k : Int) + 1) = 4 * k + 1 := by simp [IntKind.wrap, IntKind.bits, IntKind.signed]; omega
              have m2 : IntKind.i64.wrap (4 * (k : Int) + 2) = 4 * k + 2 := by simp [IntKind.wrap, IntKind.bits, IntKind.signed]; omega
              have m3 : IntKind.i64.wrap (4 * (k : Int) + 3) = 4 * k + 3 := by simp [IntKind.wrap, IntKind.bits, IntKind.signed]; omega
              have z0 : 0 ≤ 4 * (k : Int) := by omega
              have z1 : 0 ≤ 4 * (k : Int) + 1 := by omega
              have z2 : 0 ≤ 4 * (k : Int) + 2 := by omega
              have z3 : 0 ≤ 4 * (k : Int) + 3 := by omega
              have t0 : (4 * (k : Int)).toNat = 4 * k := by omega
              have t1 : (4 * (k : Int) + 1).toNat = 4 * k + 1 := by omega
              have t2 : (4 * (k : Int) + 2).toNat = 4 * k + 2 := by omega
              have t3 : (4 * (k : Int) + 3).toNat = 4 * k + 3 := by omega
              have i0' : (4 * (k : Int)) < 32 := by omega
              have i1 : (4 * (k : Int)) + 1 < 32 := by omega
              have i2 : (4 * (k : Int)) + 2 < 32 := by omega
              have i3 : (4 * (k : Int)) + 3 < 32 := by omega
              have cell : ∀ j, j < 32 → ∃ v, wr.cell? ⟨q, j, none⟩ = some v := fun j hj => by
                rw [cell_of_blk HQ.out]
                exact ⟨_, Array.getElem?_eq_getElem (by simp [outC_len]; exact hj)⟩
              obtain ⟨v0, d0⟩ := cell (4 * k) (by omega)
              obtain ⟨v1, d1⟩ := cell (4 * k + 1) (by omega)
              obtain ⟨v2, d2⟩ := cell (4 * k + 2) (by omega)
              obtain ⟨v3, d3⟩ := cell (4 * k + 3) (by omega)
              have g0 := free_of_blk HQ.out (4 * k)
              have g1 := free_of_blk HQ.out (4 * k + 1)
              have g2 := free_of_blk HQ.out (4 * k + 2)
              have g3 := free_of_blk HQ.out (4 * k + 3)
              have o0 := outC_set hs6 (4 * k) (by omega) (.int .u8 (hs6.getD k 0 / 16777216 % 256)) (by rw [outI, u8v_byteI, show 4 * k / 4 = k by omega, show 24 - 4 * k % 4 * 8 = 24 by omega]; rfl)
              have o1 := outC_set hs6 (4 * k + 1) (by omega) (.int .u8 (hs6.getD k 0 / 65536 % 256)) (by rw [outI, u8v_byteI, show (4 * k + 1) / 4 = k by omega, show 24 - (4 * k + 1) % 4 * 8 = 16 by omega]; rfl)
              have o2 := outC_set hs6 (4 * k + 2) (by omega) (.int .u8 (hs6.getD k 0 / 256 % 256)) (by rw [outI, u8v_byteI, show (4 * k + 2) / 4 = k by omega, show 24 - (4 * k + 2) % 4 * 8 = 8 by omega]; rfl)
              have o3 := outC_set hs6 (4 * k + 3) (by omega) (.int .u8 (hs6.getD k 0 % 256)) (by rw [outI, u8v_byteI, show (4 * k + 3) / 4 = k by omega, show 24 - (4 * k + 3) % 4 * 8 = 0 by omega]; simp)
              have q0 := blk_set HQ.out (4 * k) (.int .u8 (hs6.getD k 0 / 16777216 % 256))
              rw [o0] at q0
              have q1 := blk_set q0 (4 * k + 1) (.int .u8 (hs6.getD k 0 / 65536 % 256))
              rw [o1] at q1
              have q2 := blk_set q1 (4 * k + 2) (.int .u8 (hs6.getD k 0 / 256 % 256))
              rw [o2] at q2
              have q3 := blk_set q2 (4 * k + 3) (.int .u8 (hs6.getD k 0 % 256))
              rw [o3] at q3
              have HQ4 := Lib.hid q3
              have U4 := Lib.hid ((((HU.out.setCell (p := ⟨q, 4 * k, none⟩) (.inr rfl) (.int .u8 (hs6.getD k 0 / 16777216 % 256))).setCell (p := ⟨q, 4 * k + 1, none⟩) (.inr rfl) (.int .u8 (hs6.getD k 0 / 65536 % 256))).setCell (p := ⟨q, 4 * k + 2, none⟩) (.inr rfl) (.int .u8 (hs6.getD k 0 / 256 % 256))).setCell (p := ⟨q, 4 * k + 3, none⟩) (.inr rfl) (.int .u8 (hs6.getD k 0 % 256)))
              clear o0 o1 o2 o3 q0 q1 q2 q3 cell
              generalize hs6.getD k 0 = x at *
              go_wp2_with fail
              go_quiet (fail)
              go_wp2_with fail
              go_roundw
              case rel =>
                refine ⟨k + 1, by omega, by simp, ?_, ((((HU.out.drewN _).setCell (p := ⟨q, 4 * k, none⟩) (.inr rfl) _).setCell (p := ⟨q, 4 * k + 1, none⟩) (.inr rfl) _).setCell (p := ⟨q, 4 * k + 2, none⟩) (.inr rfl) _).setCell (p := ⟨q, 4 * k + 3, none⟩) (.inr rfl) _⟩
                have h := HQ4.out
                rw [show 4 * k + 3 + 1 = 4 * (k + 1) by omega] at h
                exact h
              case measure => simp [RowKit.intOf]; omega
            · have HK := Lib.hid (show k = 8 by omega)
              have hki : ¬ (k : Int) < 8 := by omega
              have HL := Lib.hid (hash_size32 (outC hs6 (4 * k)) (outC_len _ _))
              have HC := Lib.hid (blk_cells HQ.out)
              have HQB2 := Lib.hid (HU.out.blk HO7.out HNE2.out)
              have H32 := Lib.hid (u8_ones (outC hs6 (4 * k)))
              have HLL := Lib.hid (show (List.replicate 32 (Value.int .u8 0)).length = ((outC hs6 (4 * k)).map u8v).length by simp [outC_len])
              go_wp2_with (first
                | (refine wpList_loadAgg rfl 30 _ rfl q 0 rfl ((outC hs6 (4 * k)).map u8v) Tryz.underlying30 rfl HL.out HC.out ?_)
                | (refine store_whole rfl 30 _ _ rfl qb rfl ((outC hs6 (4 * k)).map u8v) rfl HL.out _ _ HQB2.out HLL.out H32.out ?_))
              have hsz : (Tryz.prog.info? 30).map (·.size) = some ((outC hs6 (4 * k)).map u8v).toArray.size := by rw [HL.out]; simp
              refine bodyPost_ret (v := .agg ((outC hs6 (4 * k)).map u8v).toArray) (results_cell_row rfl _ _ qb 30 _ (0, 0) _ rfl (blk_setRow HQB2.out _) Tryz.underlying30 rfl hsz) rfl ⟨by rw [HK.out, HABS.out]; rfl, ?_⟩
              exact Upd.setRow (HX0'.out.then HU.out (fun b hb3 e => by have : b = q := e; have := HQQ.out; omega)) (.inl (by rw [HQB.out]; exact Nat.le_refl _)) _
end Go.Proofs.YtnkcfkjeeennmaaGreatDoor
