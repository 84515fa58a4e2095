/- The walk of WireBack. -/
import Derived.Test.YtkdhjighomnooaaDoorMayL
import Derived.Test.YtkdhjighomnooaaDoorDecQ3
import Derived.Deep.CutRange
import Derived.Deep.CutBlock
namespace Go.Proofs.YtkdhjighomnooaaDoor
open Go.RowKit Go.Lib

/-- Too many leaves, or one too long among the first j. -/
def overB (l : List ByteArray) (j : Nat) : Bool := decide (4096 < l.length) || (l.take j).any (fun t => decide (65536 < t.size))
theorem over_zero (l : List ByteArray) : overB l 0 = decide ((4096 : Int) < (l.length : Int)) := by
  unfold overB
  by_cases h : 4096 < l.length
  · have h2 : (4096 : Int) < (l.length : Int) := by omega
    simp [h, h2]
  · have h2 : ¬ (4096 : Int) < (l.length : Int) := by omega
    simp [h, h2]
theorem over_succ (l : List ByteArray) (j : Nat) (s : ByteArray) (h : l[j]? = some s) : overB l (j + 1) = (overB l j || decide ((65536 : Int) < (s.size : Int))) := by
  have e : decide ((65536 : Int) < (s.size : Int)) = decide (65536 < s.size) := decide_eq_decide.2 (by omega)
  rw [e]
  unfold overB
  rw [List.take_add_one, h, Option.toList_some, List.any_append, Bool.or_assoc]
  simp
theorem over_big (l : List ByteArray) (hl : sizes l + l.length ≤ 1048576) : overB l l.length = true ↔ bigQ l := by
  unfold overB bigQ
  rw [List.take_length, Bool.or_eq_true, List.any_eq_true]
  constructor
  · rintro (h | ⟨t, h1, h2⟩)
    · exact .inl (by simpa using h)
    · exact .inr (.inl ⟨t, h1, by simpa using h2⟩)
  · rintro (h | ⟨t, h1, h2⟩ | h)
    · exact .inl (by simpa using h)
    · exact .inr ⟨t, h1, by simpa using h2⟩
    · omega

set_option maxRecDepth 8000 in
set_option maxHeartbeats 4000000 in
theorem back_any {B : Nat} {se : Nat → Addr} {w : World} (G : Genv B se w) (A : Asks B w) (q : QryD) (hq : q.Ok) (ad : Option Addr) (ca : Nat) (hx : TextsAt w ad q.leaves) (hsz : sizes q.leaves + q.leaves.length ≤ 1048576) (s : ByteArray) (hs : s.size ≤ 9223372036854775807) :
    Calls Tryd.prog 4 #[.agg (qCells q (.slice ad q.leaves.length ca)).toArray, .string s] w fun e w' => e = .returned (.bool true) ∧ Ext w w' := by
  have X := (Upd.refl none' w).alloc (.cells (qCells q (.slice ad q.leaves.length ca)).toArray 45)
  have hb := blk_alloc w (.cells (qCells q (.slice ad q.leaves.length ca)).toArray 45)
  have CT := textsSize_any (hx.later X) ca hsz
  obtain ⟨N, hN⟩ : ∃ N, sizes q.leaves + q.leaves.length = N := ⟨_, rfl⟩
  rw [hN] at CT
  have hNl : N ≤ 1048576 := by omega
  have X2 := X.alloc (.cells #[.int .i64 N] 3)
  have hb2 := blk_alloc (w.alloc (.cells (qCells q (.slice ad q.leaves.length ca)).toArray 45)) (.cells #[.int .i64 N] 3)
  have CB := beyond_one _ N (by omega) _ hb2
  have hd : decide (1048576 < N) = false := by simp; omega
  rw [hd] at CB
  have hba := Ext.blk ((Upd.refl none' _).alloc (.cells #[.int .i64 N] 3)) hb
  rw [World.size_alloc] at CB
  have CE := encQ_one (G.ext X2) (A.ext X2) q hq ad ca (hx.later X2)
  have c7 := cell_of_blk hb 7
  simp only [qCells] at X2 hba CB CE CT c7 ⊢
  simp only [List.size_toArray, List.getElem?_toArray, List.getElem?_cons_zero, List.getElem?_cons_succ] at c7
  have HX := Lib.hid X2
  have HBA := Lib.hid hba
  have HG := Lib.hid G
  have HA := Lib.hid A
  have HOK := Lib.hid hq
  have HXS := Lib.hid hx
  have HSZ := Lib.hid hsz
  have HS := Lib.hid hs
  clear X X2 hb hb2 hba G A hq hx hd hN hNl hsz hs
  go_enter Tryd.func4, Tryd.ntmps4
  go_wp2_with fail
  refine CT.mono ?_
  rintro e w0 ⟨rfl, rfl⟩
  clear CT
  go_wp2_with fail
  refine CB.mono ?_
  rintro e w1 ⟨rfl, rfl⟩
  have c0 := cell_of_blk HBA.out 0
  have c1 := cell_of_blk HBA.out 1
  have c2 := cell_of_blk HBA.out 2
  have c3 := cell_of_blk HBA.out 3
  have c4 := cell_of_blk HBA.out 4
  have c5 := cell_of_blk HBA.out 5
  have c6 := cell_of_blk HBA.out 6
  have c7 := cell_of_blk HBA.out 7
  simp only [List.size_toArray, List.getElem?_toArray, List.getElem?_cons_zero, List.getElem?_cons_succ] at c0 c1 c2 c3 c4 c5 c6 c7
  clear CB
  go_wp2_with fail
  refine CE.mono ?_
  rintro e w2 ⟨v, rfl, hv, u⟩
  have HV := Lib.hid hv
  have hba2 := Ext.blk u HBA.out
  have c7 := cell_of_blk hba2 7
  simp only [List.size_toArray, List.getElem?_toArray, List.getElem?_cons_zero, List.getElem?_cons_succ] at c7
  have HB2 := Lib.hid hba2
  have HU := Lib.hid (HX.out.trans u)
  have HX2 := Lib.hid (HXS.out.later HU.out)
  have HO0 := Lib.hid (over_zero q.leaves)
  clear u hba2 CE hv c0 c1 c2 c3 c4 c5 c6 HBA
  have c7b := c7
  go_wp2_with fail
  rw [← HO0.out]
  go_loopw [7, 8, 9] (fun av ov iv wr => ∃ j : Nat, j ≤ q.leaves.length ∧ iv = .int .i64 j ∧ av = .int .i64 ((sizes (q.leaves.take j) : Nat) : Int) ∧ ov = .bool (overB q.leaves j) ∧ w2 = wr) (fun _ _ iv _ => q.leaves.length - (RowKit.intOf iv).toNat)
  case atStart => exact ⟨0, by omega, rfl, by simp [sizes], rfl, rfl⟩
  case round =>
    obtain ⟨j, hj, rfl, rfl, rfl, rfl⟩ := hrel
    by_cases hlt : j < q.leaves.length
    · have hg := List.getElem?_eq_getElem hlt
      generalize q.leaves[j] = t at hg
      obtain ⟨h1, b, o, rfl, hc⟩ := HX2.out j t hg
      have hs1 := sizes_take_succ q.leaves j t hg
      have hs2 := sizes_take q.leaves (j + 1)
      have HOS := Lib.hid (over_succ q.leaves j t hg)
      have HSS := Lib.hid (show sizes (q.leaves.take (j + 1)) = sizes (q.leaves.take j) + t.size ∧ sizes (q.leaves.take j) + t.size ≤ 1048576 by have := HSZ.out; omega)
      have hlti : (j : Int) < q.leaves.length := by omega
      have HW := Lib.hid (show wrap64 (((sizes (q.leaves.take j) : Nat) : Int) + t.size) = ((sizes (q.leaves.take j) + t.size : Nat) : Int) ∧ wrap64 ((j : Int) + 1) = ((j + 1 : Nat) : Int) by have := HSS.out.2; have := HSZ.out; unfold wrap64; omega)
      have hm4 : (RowKit.intOf (.int .i64 (wrap64 ((j : Int) + 1)))).toNat = j + 1 := by rw [HW.out.2]; simp [RowKit.intOf]
      have hm5 : (RowKit.intOf (.int .i64 (j : Int))).toNat = j := by simp [RowKit.intOf]
      have HM := Lib.hid (And.intro hm4 hm5)
      clear hg h1 hs1 hs2 hm4 hm5
      have fin : Hid (∀ z, overB q.leaves (j + 1) = z → (∃ k : Nat, k ≤ q.leaves.length ∧ Value.int .i64 (wrap64 ((j : Int) + 1)) = .int .i64 k ∧ Value.int .i64 (wrap64 (((sizes (q.leaves.take j) : Nat) : Int) + t.size)) = .int .i64 ((sizes (q.leaves.take k) : Nat) : Int) ∧ Value.bool z = .bool (overB q.leaves k) ∧ w2 = w2) ∧ q.leaves.length - (RowKit.intOf (.int .i64 (wrap64 ((j : Int) + 1)))).toNat < q.leaves.length - (RowKit.intOf (.int .i64 (j : Int))).toNat) :=
        Lib.hid (fun z hz => ⟨⟨j + 1, by omega, by rw [HW.out.2], by rw [HW.out.1, HSS.out.1], by rw [hz], rfl⟩, by rw [HM.out.1, HM.out.2]; omega⟩)
      have occ : overB q.leaves j = false ∨ overB q.leaves j = true := by cases overB q.leaves j <;> simp
      rcases occ with ho | ho
      · have ho2 := HOS.out
        rw [ho, Bool.false_or] at ho2
        rw [ho]
        have HF := Lib.hid (fin.out _ ho2)
        clear ho ho2 HOS fin HW HM hlt
        go_wp2_with fail
        simpa using HF.out
      · have ho2 := HOS.out
        rw [ho, Bool.true_or] at ho2
        rw [ho]
        have HF := Lib.hid (fin.out _ ho2)
        clear ho ho2 HOS fin HW HM hlt
        go_wp2_with fail
        simpa using HF.out
    · obtain rfl : j = q.leaves.length := by omega
      rw [List.take_length]
      have HOB := Lib.hid (over_big q.leaves HSZ.out)
      clear hlt
      have c0 := cell_of_blk HB2.out 0
      have c1 := cell_of_blk HB2.out 1
      have c2 := cell_of_blk HB2.out 2
      have c3 := cell_of_blk HB2.out 3
      have c4 := cell_of_blk HB2.out 4
      have c5 := cell_of_blk HB2.out 5
      have c6 := cell_of_blk HB2.out 6
      simp only [qCells, List.size_toArray, List.getElem?_toArray, List.getElem?_cons_zero, List.getElem?_cons_succ] at c0 c1 c2 c3 c4 c5 c6
      have CM := mayL_any (w := w2) q ad ca
      simp only [qCells] at CM
      generalize hov : overB q.leaves q.leaves.length = ov at HOB
      clear hov
      go_wp2_with fail
      refine CM.mono ?_
      rintro e w3 ⟨rfl, u⟩
      have HU3 := Lib.hid (HU.out.trans u)
      have HV3 := Lib.hid (HV.out.ext u)
      have hb3 := Ext.blk u HB2.out
      have c0 := cell_of_blk hb3 0
      have c1 := cell_of_blk hb3 1
      have c2 := cell_of_blk hb3 2
      have c3 := cell_of_blk hb3 3
      have c4 := cell_of_blk hb3 4
      have c5 := cell_of_blk hb3 5
      have c6 := cell_of_blk hb3 6
      have c7 := cell_of_blk hb3 7
      simp only [qCells, List.size_toArray, List.getElem?_toArray, List.getElem?_cons_zero, List.getElem?_cons_succ] at c0 c1 c2 c3 c4 c5 c6 c7
      have HB3 := Lib.hid hb3
      have HX3 := Lib.hid (HX2.out.later u)
      have HUx := HU3
      clear CM u hb3 HV HX2 HU HB2 c7b
      have mcc : mayB q = false ∨ mayB q = true := by cases mayB q <;> simp
      rcases mcc with hm | hm
      · have e1 : qryE q = some (2, none) := by unfold qryE; rw [if_pos hm]
        have e2 : qryB q = [] := by unfold qryB; rw [if_pos hm]
        have hv3 := HV3.out
        rw [e1] at hv3
        have CI := is_two (k := 2) (HG.out.ext HU3.out) hv3
        rw [e2, hm]
        clear hm e1 e2 hv3 HOB
        go_wp2_with fail
        refine CI.mono ?_
        rintro e wx ⟨rfl, u⟩
        have HUx := Lib.hid (HU3.out.trans u)
        clear u CI c0 c1 c2 c3 c4 c5 c6 c7
        have C := decQ_any (HG.out.ext HUx.out) (HA.out.ext HUx.out) s HS.out
        generalize hdec : decQ s = r at C
        obtain ⟨b, ee⟩ := r
        have HD := Lib.hid hdec
        clear hdec
        go_wp2_with fail
        refine C.mono ?_
        rintro e w4 ⟨a4, cap4, v4, rfl, h4, hv4, u4⟩
        simp only [qCells]
        have X4 := (Upd.refl none' w4).alloc (.cells #[.int .u8 b.kind, .int .u8 b.engine, .int .u64 b.size, .int .u64 b.index, .int .u64 b.old, .int .u64 b.bgn, .int .u64 b.fin, .slice a4 b.leaves.length cap4] 45)
        have hb4 := blk_alloc w4 (.cells #[.int .u8 b.kind, .int .u8 b.engine, .int .u64 b.size, .int .u64 b.index, .int .u64 b.old, .int .u64 b.bgn, .int .u64 b.fin, .slice a4 b.leaves.length cap4] 45)
        have HU4 := Lib.hid (HUx.out.trans (u4.trans X4))
        have H4 := Lib.hid (h4.later X4)
        have HB4 := Lib.hid hb4
        cases ee with
        | none =>
          obtain rfl : v4 = .nilIface := hv4
          obtain ⟨bok, bm, bb, bd, bs⟩ := back_read HD.out
          have CE := encQ_one (HG.out.ext HU4.out) (HA.out.ext HU4.out) b bok a4 cap4 H4.out
          have e1 : qryE b = none := by unfold qryE; rw [if_neg (by rw [bm]; simp), if_neg bb]; unfold wholeE; rw [if_neg (by rw [bd, Array.length_toList]; show ¬ 1048576 < s.size; omega)]
          have e2 : str (qryB b) = s := by unfold qryB; rw [if_neg (by rw [bm]; simp), if_neg bb]; unfold wholeB; rw [if_neg (by rw [bd, Array.length_toList]; show ¬ 1048576 < s.size; omega), bd, str_toList]
          unfold EncQPost at CE
          rw [e1, e2] at CE
          simp only [qCells] at CE
          have HBM := Lib.hid bm
          clear h4 u4 X4 C bok bm bb bd bs e1 e2 hb4
          go_wp2_with fail
          refine CE.mono ?_
          rintro e w5 ⟨v5, rfl, hv5, u5⟩
          obtain rfl : v5 = .nilIface := hv5
          have hb5 := Ext.blk u5 HB4.out
          have c0 := cell_of_blk hb5 0
          have c1 := cell_of_blk hb5 1
          have c2 := cell_of_blk hb5 2
          have c3 := cell_of_blk hb5 3
          have c4 := cell_of_blk hb5 4
          have c5 := cell_of_blk hb5 5
          have c6 := cell_of_blk hb5 6
          have c7 := cell_of_blk hb5 7
          simp only [qCells, List.size_toArray, List.getElem?_toArray, List.getElem?_cons_zero, List.getElem?_cons_succ] at c0 c1 c2 c3 c4 c5 c6 c7
          have CM := mayL_any (w := w5) b a4 cap4
          rw [HBM.out] at CM
          simp only [qCells] at CM
          have HU5 := Lib.hid (HU4.out.trans u5)
          clear u5 CE hb5
          go_wp2_with fail
          refine CM.mono ?_
          rintro e w6 ⟨rfl, u6⟩
          have CA := alive_any (HG.out.ext (HU5.out.trans u6)) (HA.out.ext (HU5.out.trans u6))
          have HU6 := Lib.hid (HU5.out.trans u6)
          clear u6 CM c0 c1 c2 c3 c4 c5 c6 c7
          go_wp2_with fail
          refine CA.mono ?_
          rintro e w7 ⟨rfl, u7⟩
          have HU7 := Lib.hid (HU6.out.trans u7)
          clear u7 CA
          go_wp2_with fail
          go_ret
          exact ⟨rfl, HU7.out⟩
        | some ee =>
          obtain rfl := back_zero HD.out
          have hi := (err_form hv4).resolve_left (fun h => by simp at h)
          obtain ⟨⟨ti, yi, rfl⟩, _⟩ := hi
          have CS := sameQ_any (a := a4) (b := none) (w := w4.alloc (.cells #[.int .u8 0, .int .u8 0, .int .u64 0, .int .u64 0, .int .u64 0, .int .u64 0, .int .u64 0, .slice a4 0 cap4] 45)) zeroQ (by decide) (TextsAt.nil _ _) (TextsAt.nil _ _) cap4 0
          simp only [qCells, List.length_nil] at CS
          clear h4 hv4 u4 X4 C
          clear hb4
          go_wp2_with fail
          refine CS.mono ?_
          rintro e w5 ⟨rfl, u5⟩
          have CA := alive_any (HG.out.ext (HU4.out.trans u5)) (HA.out.ext (HU4.out.trans u5))
          have HU5 := Lib.hid (HU4.out.trans u5)
          clear u5 CS
          go_wp2_with fail
          refine CA.mono ?_
          rintro e w6 ⟨rfl, u6⟩
          have HU6 := Lib.hid (HU5.out.trans u6)
          clear u6 CA
          go_wp2_with fail
          go_ret
          exact ⟨rfl, HU6.out⟩
      · rw [hm]
        have HM := Lib.hid hm
        have hm0 : ¬ (mayB q = false) := by rw [hm]; simp
        have occ : ov = true ∨ ov = false := by cases ov <;> simp
        rcases occ with rfl | rfl
        · have hbig := HOB.out.1 rfl
          have e1 : qryE q = some (4, none) := by unfold qryE; rw [if_neg hm0, if_pos hbig]
          have e2 : qryB q = [] := by unfold qryB; rw [if_neg hm0, if_pos hbig]
          have hv3 := HV3.out
          rw [e1] at hv3
          have CI := is_two (k := 4) (HG.out.ext HU3.out) hv3
          rw [e2]
          clear hm hm0 hbig e1 e2 hv3 HOB
          go_wp2_with fail
          refine CI.mono ?_
          rintro e wx ⟨rfl, u⟩
          have HUx := Lib.hid (HU3.out.trans u)
          clear u CI c0 c1 c2 c3 c4 c5 c6 c7
          have C := decQ_any (HG.out.ext HUx.out) (HA.out.ext HUx.out) s HS.out
          generalize hdec : decQ s = r at C
          obtain ⟨b, ee⟩ := r
          have HD := Lib.hid hdec
          clear hdec
          go_wp2_with fail
          refine C.mono ?_
          rintro e w4 ⟨a4, cap4, v4, rfl, h4, hv4, u4⟩
          simp only [qCells]
          have X4 := (Upd.refl none' w4).alloc (.cells #[.int .u8 b.kind, .int .u8 b.engine, .int .u64 b.size, .int .u64 b.index, .int .u64 b.old, .int .u64 b.bgn, .int .u64 b.fin, .slice a4 b.leaves.length cap4] 45)
          have hb4 := blk_alloc w4 (.cells #[.int .u8 b.kind, .int .u8 b.engine, .int .u64 b.size, .int .u64 b.index, .int .u64 b.old, .int .u64 b.bgn, .int .u64 b.fin, .slice a4 b.leaves.length cap4] 45)
          have HU4 := Lib.hid (HUx.out.trans (u4.trans X4))
          have H4 := Lib.hid (h4.later X4)
          have HB4 := Lib.hid hb4
          cases ee with
          | none =>
            obtain rfl : v4 = .nilIface := hv4
            obtain ⟨bok, bm, bb, bd, bs⟩ := back_read HD.out
            have CE := encQ_one (HG.out.ext HU4.out) (HA.out.ext HU4.out) b bok a4 cap4 H4.out
            have e1 : qryE b = none := by unfold qryE; rw [if_neg (by rw [bm]; simp), if_neg bb]; unfold wholeE; rw [if_neg (by rw [bd, Array.length_toList]; show ¬ 1048576 < s.size; omega)]
            have e2 : str (qryB b) = s := by unfold qryB; rw [if_neg (by rw [bm]; simp), if_neg bb]; unfold wholeB; rw [if_neg (by rw [bd, Array.length_toList]; show ¬ 1048576 < s.size; omega), bd, str_toList]
            unfold EncQPost at CE
            rw [e1, e2] at CE
            simp only [qCells] at CE
            have HBM := Lib.hid bm
            clear h4 u4 X4 C bok bm bb bd bs e1 e2 hb4
            go_wp2_with fail
            refine CE.mono ?_
            rintro e w5 ⟨v5, rfl, hv5, u5⟩
            obtain rfl : v5 = .nilIface := hv5
            have hb5 := Ext.blk u5 HB4.out
            have c0 := cell_of_blk hb5 0
            have c1 := cell_of_blk hb5 1
            have c2 := cell_of_blk hb5 2
            have c3 := cell_of_blk hb5 3
            have c4 := cell_of_blk hb5 4
            have c5 := cell_of_blk hb5 5
            have c6 := cell_of_blk hb5 6
            have c7 := cell_of_blk hb5 7
            simp only [qCells, List.size_toArray, List.getElem?_toArray, List.getElem?_cons_zero, List.getElem?_cons_succ] at c0 c1 c2 c3 c4 c5 c6 c7
            have CM := mayL_any (w := w5) b a4 cap4
            rw [HBM.out] at CM
            simp only [qCells] at CM
            have HU5 := Lib.hid (HU4.out.trans u5)
            clear u5 CE hb5
            go_wp2_with fail
            refine CM.mono ?_
            rintro e w6 ⟨rfl, u6⟩
            have CA := alive_any (HG.out.ext (HU5.out.trans u6)) (HA.out.ext (HU5.out.trans u6))
            have HU6 := Lib.hid (HU5.out.trans u6)
            clear u6 CM c0 c1 c2 c3 c4 c5 c6 c7
            go_wp2_with fail
            refine CA.mono ?_
            rintro e w7 ⟨rfl, u7⟩
            have HU7 := Lib.hid (HU6.out.trans u7)
            clear u7 CA
            go_wp2_with fail
            go_ret
            exact ⟨rfl, HU7.out⟩
          | some ee =>
            obtain rfl := back_zero HD.out
            have hi := (err_form hv4).resolve_left (fun h => by simp at h)
            obtain ⟨⟨ti, yi, rfl⟩, _⟩ := hi
            have CS := sameQ_any (a := a4) (b := none) (w := w4.alloc (.cells #[.int .u8 0, .int .u8 0, .int .u64 0, .int .u64 0, .int .u64 0, .int .u64 0, .int .u64 0, .slice a4 0 cap4] 45)) zeroQ (by decide) (TextsAt.nil _ _) (TextsAt.nil _ _) cap4 0
            simp only [qCells, List.length_nil] at CS
            clear h4 hv4 u4 X4 C
            clear hb4
            go_wp2_with fail
            refine CS.mono ?_
            rintro e w5 ⟨rfl, u5⟩
            have CA := alive_any (HG.out.ext (HU4.out.trans u5)) (HA.out.ext (HU4.out.trans u5))
            have HU5 := Lib.hid (HU4.out.trans u5)
            clear u5 CS
            go_wp2_with fail
            refine CA.mono ?_
            rintro e w6 ⟨rfl, u6⟩
            have HU6 := Lib.hid (HU5.out.trans u6)
            clear u6 CA
            go_wp2_with fail
            go_ret
            exact ⟨rfl, HU6.out⟩
        · have hbig : ¬ bigQ q.leaves := fun h => by simpa using HOB.out.2 h
          have dsz : ¬ (1048576 : Int) < ((sizes q.leaves : Nat) : Int) := by have := HSZ.out; omega
          by_cases hw : 1048576 < q.body.length
          · have e1 : qryE q = some (4, none) := by unfold qryE; rw [if_neg hm0, if_neg hbig]; unfold wholeE; rw [if_pos hw]
            have e2 : qryB q = [] := by unfold qryB; rw [if_neg hm0, if_neg hbig]; unfold wholeB; rw [if_pos hw]
            have hno := back_no q hbig hw
            have hv3 := HV3.out
            rw [e1] at hv3
            have CI := is_two (k := 4) (HG.out.ext HU3.out) hv3
            obtain ⟨_, _, rfl⟩ := hv3
            have dm : (1048576 : Int) < wrap64 (wrap64 (((sizes q.leaves : Nat) : Int) + wrap64 (3 * (q.leaves.length : Int))) + 60) := by have := HSZ.out; unfold wrap64; omega
            rw [e2]
            clear hm hm0 hbig e1 e2 hw hno HOB
            go_wp2_with fail
            refine CI.mono ?_
            rintro e wx ⟨rfl, u⟩
            have HUx := Lib.hid (HU3.out.trans u)
            have hbx := Ext.blk u HB3.out
            have c7 := cell_of_blk hbx 7
            simp only [qCells, List.size_toArray, List.getElem?_toArray, List.getElem?_cons_zero, List.getElem?_cons_succ] at c7
            clear u CI hbx
            have C := decQ_any (HG.out.ext HUx.out) (HA.out.ext HUx.out) s HS.out
            generalize hdec : decQ s = r at C
            obtain ⟨b, ee⟩ := r
            have HD := Lib.hid hdec
            clear hdec
            go_wp2_with fail
            refine C.mono ?_
            rintro e w4 ⟨a4, cap4, v4, rfl, h4, hv4, u4⟩
            simp only [qCells]
            have X4 := (Upd.refl none' w4).alloc (.cells #[.int .u8 b.kind, .int .u8 b.engine, .int .u64 b.size, .int .u64 b.index, .int .u64 b.old, .int .u64 b.bgn, .int .u64 b.fin, .slice a4 b.leaves.length cap4] 45)
            have hb4 := blk_alloc w4 (.cells #[.int .u8 b.kind, .int .u8 b.engine, .int .u64 b.size, .int .u64 b.index, .int .u64 b.old, .int .u64 b.bgn, .int .u64 b.fin, .slice a4 b.leaves.length cap4] 45)
            have HU4 := Lib.hid (HUx.out.trans (u4.trans X4))
            have H4 := Lib.hid (h4.later X4)
            have HB4 := Lib.hid hb4
            cases ee with
            | none =>
              obtain rfl : v4 = .nilIface := hv4
              obtain ⟨bok, bm, bb, bd, bs⟩ := back_read HD.out
              have CE := encQ_one (HG.out.ext HU4.out) (HA.out.ext HU4.out) b bok a4 cap4 H4.out
              have e1 : qryE b = none := by unfold qryE; rw [if_neg (by rw [bm]; simp), if_neg bb]; unfold wholeE; rw [if_neg (by rw [bd, Array.length_toList]; show ¬ 1048576 < s.size; omega)]
              have e2 : str (qryB b) = s := by unfold qryB; rw [if_neg (by rw [bm]; simp), if_neg bb]; unfold wholeB; rw [if_neg (by rw [bd, Array.length_toList]; show ¬ 1048576 < s.size; omega), bd, str_toList]
              unfold EncQPost at CE
              rw [e1, e2] at CE
              simp only [qCells] at CE
              have HBM := Lib.hid bm
              clear h4 u4 X4 C bok bm bb bd bs e1 e2 hb4
              go_wp2_with fail
              refine CE.mono ?_
              rintro e w5 ⟨v5, rfl, hv5, u5⟩
              obtain rfl : v5 = .nilIface := hv5
              have hb5 := Ext.blk u5 HB4.out
              have c0 := cell_of_blk hb5 0
              have c1 := cell_of_blk hb5 1
              have c2 := cell_of_blk hb5 2
              have c3 := cell_of_blk hb5 3
              have c4 := cell_of_blk hb5 4
              have c5 := cell_of_blk hb5 5
              have c6 := cell_of_blk hb5 6
              have c7 := cell_of_blk hb5 7
              simp only [qCells, List.size_toArray, List.getElem?_toArray, List.getElem?_cons_zero, List.getElem?_cons_succ] at c0 c1 c2 c3 c4 c5 c6 c7
              have CM := mayL_any (w := w5) b a4 cap4
              rw [HBM.out] at CM
              simp only [qCells] at CM
              have HU5 := Lib.hid (HU4.out.trans u5)
              clear u5 CE hb5
              go_wp2_with fail
              refine CM.mono ?_
              rintro e w6 ⟨rfl, u6⟩
              have CA := alive_any (HG.out.ext (HU5.out.trans u6)) (HA.out.ext (HU5.out.trans u6))
              have HU6 := Lib.hid (HU5.out.trans u6)
              clear u6 CM c0 c1 c2 c3 c4 c5 c6 c7
              go_wp2_with fail
              refine CA.mono ?_
              rintro e w7 ⟨rfl, u7⟩
              have HU7 := Lib.hid (HU6.out.trans u7)
              clear u7 CA
              go_wp2_with fail
              go_ret
              exact ⟨rfl, HU7.out⟩
            | some ee =>
              obtain rfl := back_zero HD.out
              have hi := (err_form hv4).resolve_left (fun h => by simp at h)
              obtain ⟨⟨ti, yi, rfl⟩, _⟩ := hi
              have CS := sameQ_any (a := a4) (b := none) (w := w4.alloc (.cells #[.int .u8 0, .int .u8 0, .int .u64 0, .int .u64 0, .int .u64 0, .int .u64 0, .int .u64 0, .slice a4 0 cap4] 45)) zeroQ (by decide) (TextsAt.nil _ _) (TextsAt.nil _ _) cap4 0
              simp only [qCells, List.length_nil] at CS
              clear h4 hv4 u4 X4 C
              clear hb4
              go_wp2_with fail
              refine CS.mono ?_
              rintro e w5 ⟨rfl, u5⟩
              have CA := alive_any (HG.out.ext (HU4.out.trans u5)) (HA.out.ext (HU4.out.trans u5))
              have HU5 := Lib.hid (HU4.out.trans u5)
              clear u5 CS
              go_wp2_with fail
              refine CA.mono ?_
              rintro e w6 ⟨rfl, u6⟩
              have HU6 := Lib.hid (HU5.out.trans u6)
              clear u6 CA
              go_wp2_with fail
              go_ret
              exact ⟨rfl, HU6.out⟩
          · have e1 : qryE q = none := by unfold qryE; rw [if_neg hm0, if_neg hbig]; unfold wholeE; rw [if_neg hw]
            have e2 : qryB q = q.body := by unfold qryB; rw [if_neg hm0, if_neg hbig]; unfold wholeB; rw [if_neg hw]
            have hv3 := HV3.out
            rw [e1] at hv3
            obtain rfl : v = .nilIface := hv3
            have hbk := back_ok q HOK.out hm hbig (by omega)
            have dl : ¬ (1048576 : Int) < (str q.body).size := by rw [str_size]; omega
            have C := decQ_any (HG.out.ext HU3.out) (HA.out.ext HU3.out) (str q.body) (by rw [str_size]; omega)
            rw [hbk] at C
            rw [e2]
            generalize str q.body = bs at C dl ⊢
            clear hm hm0 hbig e1 e2 hw hbk HOB HV3
            go_wp2_with fail
            refine C.mono ?_
            rintro e w5 ⟨a5, cap5, v5, rfl, h5, hv5, u5⟩
            obtain rfl : v5 = .nilIface := hv5
            simp only [qCells]
            have X5 := (Upd.refl none' w5).alloc (.cells #[.int .u8 q.kind, .int .u8 q.engine, .int .u64 q.size, .int .u64 q.index, .int .u64 q.old, .int .u64 q.bgn, .int .u64 q.fin, .slice a5 q.leaves.length cap5] 45)
            have hb5 := Ext.blk (u5.trans X5) HB3.out
            have c0 := cell_of_blk hb5 0
            have c1 := cell_of_blk hb5 1
            have c2 := cell_of_blk hb5 2
            have c3 := cell_of_blk hb5 3
            have c4 := cell_of_blk hb5 4
            have c5 := cell_of_blk hb5 5
            have c6 := cell_of_blk hb5 6
            have c7 := cell_of_blk hb5 7
            simp only [qCells, List.size_toArray, List.getElem?_toArray, List.getElem?_cons_zero, List.getElem?_cons_succ] at c0 c1 c2 c3 c4 c5 c6 c7
            have CS := sameQ_any (w := w5.alloc (.cells #[.int .u8 q.kind, .int .u8 q.engine, .int .u64 q.size, .int .u64 q.index, .int .u64 q.old, .int .u64 q.bgn, .int .u64 q.fin, .slice a5 q.leaves.length cap5] 45)) q HOK.out.many (h5.later X5) (HX3.out.later (u5.trans X5)) cap5 ca
            simp only [qCells] at CS
            have HU5 := Lib.hid (HU3.out.trans (u5.trans X5))
            have HB5 := Lib.hid hb5
            clear h5 u5 X5 hb5 C HUx
            go_wp2_with fail
            refine CS.mono ?_
            rintro e wx ⟨rfl, u⟩
            have HUx := Lib.hid (HU5.out.trans u)
            clear u CS c0 c1 c2 c3 c4 c5 c6 c7
            have C := decQ_any (HG.out.ext HUx.out) (HA.out.ext HUx.out) s HS.out
            generalize hdec : decQ s = r at C
            obtain ⟨b, ee⟩ := r
            have HD := Lib.hid hdec
            clear hdec
            go_wp2_with fail
            refine C.mono ?_
            rintro e w4 ⟨a4, cap4, v4, rfl, h4, hv4, u4⟩
            simp only [qCells]
            have X4 := (Upd.refl none' w4).alloc (.cells #[.int .u8 b.kind, .int .u8 b.engine, .int .u64 b.size, .int .u64 b.index, .int .u64 b.old, .int .u64 b.bgn, .int .u64 b.fin, .slice a4 b.leaves.length cap4] 45)
            have hb4 := blk_alloc w4 (.cells #[.int .u8 b.kind, .int .u8 b.engine, .int .u64 b.size, .int .u64 b.index, .int .u64 b.old, .int .u64 b.bgn, .int .u64 b.fin, .slice a4 b.leaves.length cap4] 45)
            have HU4 := Lib.hid (HUx.out.trans (u4.trans X4))
            have H4 := Lib.hid (h4.later X4)
            have HB4 := Lib.hid hb4
            cases ee with
            | none =>
              obtain rfl : v4 = .nilIface := hv4
              obtain ⟨bok, bm, bb, bd, bs⟩ := back_read HD.out
              have CE := encQ_one (HG.out.ext HU4.out) (HA.out.ext HU4.out) b bok a4 cap4 H4.out
              have e1 : qryE b = none := by unfold qryE; rw [if_neg (by rw [bm]; simp), if_neg bb]; unfold wholeE; rw [if_neg (by rw [bd, Array.length_toList]; show ¬ 1048576 < s.size; omega)]
              have e2 : str (qryB b) = s := by unfold qryB; rw [if_neg (by rw [bm]; simp), if_neg bb]; unfold wholeB; rw [if_neg (by rw [bd, Array.length_toList]; show ¬ 1048576 < s.size; omega), bd, str_toList]
              unfold EncQPost at CE
              rw [e1, e2] at CE
              simp only [qCells] at CE
              have HBM := Lib.hid bm
              clear h4 u4 X4 C bok bm bb bd bs e1 e2 hb4
              go_wp2_with fail
              refine CE.mono ?_
              rintro e w5 ⟨v5, rfl, hv5, u5⟩
              obtain rfl : v5 = .nilIface := hv5
              have hb5 := Ext.blk u5 HB4.out
              have c0 := cell_of_blk hb5 0
              have c1 := cell_of_blk hb5 1
              have c2 := cell_of_blk hb5 2
              have c3 := cell_of_blk hb5 3
              have c4 := cell_of_blk hb5 4
              have c5 := cell_of_blk hb5 5
              have c6 := cell_of_blk hb5 6
              have c7 := cell_of_blk hb5 7
              simp only [qCells, List.size_toArray, List.getElem?_toArray, List.getElem?_cons_zero, List.getElem?_cons_succ] at c0 c1 c2 c3 c4 c5 c6 c7
              have CM := mayL_any (w := w5) b a4 cap4
              rw [HBM.out] at CM
              simp only [qCells] at CM
              have HU5 := Lib.hid (HU4.out.trans u5)
              clear u5 CE hb5
              go_wp2_with fail
              refine CM.mono ?_
              rintro e w6 ⟨rfl, u6⟩
              have CA := alive_any (HG.out.ext (HU5.out.trans u6)) (HA.out.ext (HU5.out.trans u6))
              have HU6 := Lib.hid (HU5.out.trans u6)
              clear u6 CM c0 c1 c2 c3 c4 c5 c6 c7
              go_wp2_with fail
              refine CA.mono ?_
              rintro e w7 ⟨rfl, u7⟩
              have HU7 := Lib.hid (HU6.out.trans u7)
              clear u7 CA
              go_wp2_with fail
              go_ret
              exact ⟨rfl, HU7.out⟩
            | some ee =>
              obtain rfl := back_zero HD.out
              have hi := (err_form hv4).resolve_left (fun h => by simp at h)
              obtain ⟨⟨ti, yi, rfl⟩, _⟩ := hi
              have CS := sameQ_any (a := a4) (b := none) (w := w4.alloc (.cells #[.int .u8 0, .int .u8 0, .int .u64 0, .int .u64 0, .int .u64 0, .int .u64 0, .int .u64 0, .slice a4 0 cap4] 45)) zeroQ (by decide) (TextsAt.nil _ _) (TextsAt.nil _ _) cap4 0
              simp only [qCells, List.length_nil] at CS
              clear h4 hv4 u4 X4 C
              clear hb4
              go_wp2_with fail
              refine CS.mono ?_
              rintro e w5 ⟨rfl, u5⟩
              have CA := alive_any (HG.out.ext (HU4.out.trans u5)) (HA.out.ext (HU4.out.trans u5))
              have HU5 := Lib.hid (HU4.out.trans u5)
              clear u5 CS
              go_wp2_with fail
              refine CA.mono ?_
              rintro e w6 ⟨rfl, u6⟩
              have HU6 := Lib.hid (HU5.out.trans u6)
              clear u6 CA
              go_wp2_with fail
              go_ret
              exact ⟨rfl, HU6.out⟩
end Go.Proofs.YtkdhjighomnooaaDoor
