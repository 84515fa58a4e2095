/- The law's may, case by case; DecodeQuery of any bytes; TextsSize. PRINTED by wip/tools/gen_mayl.py. -/
import Derived.Test.YtkdhjighomnooaaDoorEncQ
namespace Go.Proofs.YtkdhjighomnooaaDoor
open Go.RowKit Go.Lib

set_option maxRecDepth 8000 in
set_option maxHeartbeats 8000000 in
theorem mayL_1 {w : World} (e sz ix od bg fi : Nat) (lv : List ByteArray) (ad : Option Addr) (ca : Nat) : Calls Tryd.prog 16 #[.agg #[.int .u8 1, .int .u8 e, .int .u64 sz, .int .u64 ix, .int .u64 od, .int .u64 bg, .int .u64 fi, .slice ad lv.length ca]] w fun x w' => x = .returned (.bool (mayB ⟨1, e, sz, ix, od, bg, fi, lv⟩)) ∧ Ext w w' := by
  by_cases he : e = 0
  · subst he
    by_cases hsz : sz = 0
    · subst hsz
      by_cases hix : ix = 0
      · subst hix
        by_cases hod : od = 0
        · subst hod
          by_cases hbg : bg = 0
          · subst hbg
            by_cases hfi : fi = 0
            · subst hfi
              by_cases hl : lv.length = 0
              · obtain rfl : lv = [] := List.length_eq_zero_iff.1 hl
                simp only [List.length_nil]
                clear hl
                have HR : Hid (mayB ⟨1, 0, 0, 0, 0, 0, 0, []⟩ = true) := Lib.hid (by simp [mayB, okQ, goesB, askE, askL, mayNum, askN, numQ, List.range, List.range.loop])
                have X := (Upd.refl none' w).alloc (.cells #[.int .u8 1, .int .u8 0, .int .u64 0, .int .u64 0, .int .u64 0, .int .u64 0, .int .u64 0, .slice ad 0 ca] 45)
                have hb := blk_alloc w (.cells #[.int .u8 1, .int .u8 0, .int .u64 0, .int .u64 0, .int .u64 0, .int .u64 0, .int .u64 0, .slice ad 0 ca] 45)
                have c0 := cell_of_blk hb 0
                have c1 := cell_of_blk hb 1
                have c2 := cell_of_blk hb 2
                have c3 := cell_of_blk hb 3
                have c4 := cell_of_blk hb 4
                have c5 := cell_of_blk hb 5
                have c6 := cell_of_blk hb 6
                have c7 := cell_of_blk hb 7
                simp only [List.size_toArray, List.getElem?_toArray, List.getElem?_cons_zero, List.getElem?_cons_succ] at c0 c1 c2 c3 c4 c5 c6 c7
                have HX := Lib.hid X
                clear X hb
                go_enter Tryd.func16, Tryd.ntmps16
                go_wp2_with fail
                go_ret
                exact ⟨by first | (rw [HR.out]; rfl) | rw [HR.out], HX.out⟩
              · have dl : ((lv.length : Int) == 0) = false := beq_eq_false_iff_ne.2 (by omega)
                have hl2 : lv ≠ [] := fun h => hl (by rw [h]; rfl)
                clear hl
                have HR : Hid (mayB ⟨1, 0, 0, 0, 0, 0, 0, lv⟩ = false) := Lib.hid (by simp [mayB, okQ, goesB, askE, askL, mayNum, askN, numQ, List.range, List.range.loop, hl2])
                have X := (Upd.refl none' w).alloc (.cells #[.int .u8 1, .int .u8 0, .int .u64 0, .int .u64 0, .int .u64 0, .int .u64 0, .int .u64 0, .slice ad lv.length ca] 45)
                have hb := blk_alloc w (.cells #[.int .u8 1, .int .u8 0, .int .u64 0, .int .u64 0, .int .u64 0, .int .u64 0, .int .u64 0, .slice ad lv.length ca] 45)
                have c0 := cell_of_blk hb 0
                have c1 := cell_of_blk hb 1
                have c2 := cell_of_blk hb 2
                have c3 := cell_of_blk hb 3
                have c4 := cell_of_blk hb 4
                have c5 := cell_of_blk hb 5
                have c6 := cell_of_blk hb 6
                have c7 := cell_of_blk hb 7
                simp only [List.size_toArray, List.getElem?_toArray, List.getElem?_cons_zero, List.getElem?_cons_succ] at c0 c1 c2 c3 c4 c5 c6 c7
                have HX := Lib.hid X
                clear X hb hl2
                go_enter Tryd.func16, Tryd.ntmps16
                go_wp2_with fail
                go_ret
                exact ⟨by first | (rw [HR.out]; rfl) | rw [HR.out], HX.out⟩
            · have dfi : ((fi : Int) == 0) = false := beq_eq_false_iff_ne.2 (by omega)
              have HR : Hid (mayB ⟨1, 0, 0, 0, 0, 0, fi, lv⟩ = false) := Lib.hid (by simp [mayB, okQ, goesB, askE, askL, mayNum, askN, numQ, List.range, List.range.loop, hfi])
              have X := (Upd.refl none' w).alloc (.cells #[.int .u8 1, .int .u8 0, .int .u64 0, .int .u64 0, .int .u64 0, .int .u64 0, .int .u64 fi, .slice ad lv.length ca] 45)
              have hb := blk_alloc w (.cells #[.int .u8 1, .int .u8 0, .int .u64 0, .int .u64 0, .int .u64 0, .int .u64 0, .int .u64 fi, .slice ad lv.length ca] 45)
              have c0 := cell_of_blk hb 0
              have c1 := cell_of_blk hb 1
              have c2 := cell_of_blk hb 2
              have c3 := cell_of_blk hb 3
              have c4 := cell_of_blk hb 4
              have c5 := cell_of_blk hb 5
              have c6 := cell_of_blk hb 6
              have c7 := cell_of_blk hb 7
              simp only [List.size_toArray, List.getElem?_toArray, List.getElem?_cons_zero, List.getElem?_cons_succ] at c0 c1 c2 c3 c4 c5 c6 c7
              have HX := Lib.hid X
              clear X hb hfi
              go_enter Tryd.func16, Tryd.ntmps16
              go_wp2_with fail
              go_ret
              exact ⟨by first | (rw [HR.out]; rfl) | rw [HR.out], HX.out⟩
          · have dbg : ((bg : Int) == 0) = false := beq_eq_false_iff_ne.2 (by omega)
            have HR : Hid (mayB ⟨1, 0, 0, 0, 0, bg, fi, lv⟩ = false) := Lib.hid (by simp [mayB, okQ, goesB, askE, askL, mayNum, askN, numQ, List.range, List.range.loop, hbg])
            have X := (Upd.refl none' w).alloc (.cells #[.int .u8 1, .int .u8 0, .int .u64 0, .int .u64 0, .int .u64 0, .int .u64 bg, .int .u64 fi, .slice ad lv.length ca] 45)
            have hb := blk_alloc w (.cells #[.int .u8 1, .int .u8 0, .int .u64 0, .int .u64 0, .int .u64 0, .int .u64 bg, .int .u64 fi, .slice ad lv.length ca] 45)
            have c0 := cell_of_blk hb 0
            have c1 := cell_of_blk hb 1
            have c2 := cell_of_blk hb 2
            have c3 := cell_of_blk hb 3
            have c4 := cell_of_blk hb 4
            have c5 := cell_of_blk hb 5
            have c6 := cell_of_blk hb 6
            have c7 := cell_of_blk hb 7
            simp only [List.size_toArray, List.getElem?_toArray, List.getElem?_cons_zero, List.getElem?_cons_succ] at c0 c1 c2 c3 c4 c5 c6 c7
            have HX := Lib.hid X
            clear X hb hbg
            go_enter Tryd.func16, Tryd.ntmps16
            go_wp2_with fail
            go_ret
            exact ⟨by first | (rw [HR.out]; rfl) | rw [HR.out], HX.out⟩
        · have dod : ((od : Int) == 0) = false := beq_eq_false_iff_ne.2 (by omega)
          have HR : Hid (mayB ⟨1, 0, 0, 0, od, bg, fi, lv⟩ = false) := Lib.hid (by simp [mayB, okQ, goesB, askE, askL, mayNum, askN, numQ, List.range, List.range.loop, hod])
          have X := (Upd.refl none' w).alloc (.cells #[.int .u8 1, .int .u8 0, .int .u64 0, .int .u64 0, .int .u64 od, .int .u64 bg, .int .u64 fi, .slice ad lv.length ca] 45)
          have hb := blk_alloc w (.cells #[.int .u8 1, .int .u8 0, .int .u64 0, .int .u64 0, .int .u64 od, .int .u64 bg, .int .u64 fi, .slice ad lv.length ca] 45)
          have c0 := cell_of_blk hb 0
          have c1 := cell_of_blk hb 1
          have c2 := cell_of_blk hb 2
          have c3 := cell_of_blk hb 3
          have c4 := cell_of_blk hb 4
          have c5 := cell_of_blk hb 5
          have c6 := cell_of_blk hb 6
          have c7 := cell_of_blk hb 7
          simp only [List.size_toArray, List.getElem?_toArray, List.getElem?_cons_zero, List.getElem?_cons_succ] at c0 c1 c2 c3 c4 c5 c6 c7
          have HX := Lib.hid X
          clear X hb hod
          go_enter Tryd.func16, Tryd.ntmps16
          go_wp2_with fail
          go_ret
          exact ⟨by first | (rw [HR.out]; rfl) | rw [HR.out], HX.out⟩
      · have dix : ((ix : Int) == 0) = false := beq_eq_false_iff_ne.2 (by omega)
        have HR : Hid (mayB ⟨1, 0, 0, ix, od, bg, fi, lv⟩ = false) := Lib.hid (by simp [mayB, okQ, goesB, askE, askL, mayNum, askN, numQ, List.range, List.range.loop, hix])
        have X := (Upd.refl none' w).alloc (.cells #[.int .u8 1, .int .u8 0, .int .u64 0, .int .u64 ix, .int .u64 od, .int .u64 bg, .int .u64 fi, .slice ad lv.length ca] 45)
        have hb := blk_alloc w (.cells #[.int .u8 1, .int .u8 0, .int .u64 0, .int .u64 ix, .int .u64 od, .int .u64 bg, .int .u64 fi, .slice ad lv.length ca] 45)
        have c0 := cell_of_blk hb 0
        have c1 := cell_of_blk hb 1
        have c2 := cell_of_blk hb 2
        have c3 := cell_of_blk hb 3
        have c4 := cell_of_blk hb 4
        have c5 := cell_of_blk hb 5
        have c6 := cell_of_blk hb 6
        have c7 := cell_of_blk hb 7
        simp only [List.size_toArray, List.getElem?_toArray, List.getElem?_cons_zero, List.getElem?_cons_succ] at c0 c1 c2 c3 c4 c5 c6 c7
        have HX := Lib.hid X
        clear X hb hix
        go_enter Tryd.func16, Tryd.ntmps16
        go_wp2_with fail
        go_ret
        exact ⟨by first | (rw [HR.out]; rfl) | rw [HR.out], HX.out⟩
    · have dsz : ((sz : Int) == 0) = false := beq_eq_false_iff_ne.2 (by omega)
      have HR : Hid (mayB ⟨1, 0, sz, ix, od, bg, fi, lv⟩ = false) := Lib.hid (by simp [mayB, okQ, goesB, askE, askL, mayNum, askN, numQ, List.range, List.range.loop, hsz])
      have X := (Upd.refl none' w).alloc (.cells #[.int .u8 1, .int .u8 0, .int .u64 sz, .int .u64 ix, .int .u64 od, .int .u64 bg, .int .u64 fi, .slice ad lv.length ca] 45)
      have hb := blk_alloc w (.cells #[.int .u8 1, .int .u8 0, .int .u64 sz, .int .u64 ix, .int .u64 od, .int .u64 bg, .int .u64 fi, .slice ad lv.length ca] 45)
      have c0 := cell_of_blk hb 0
      have c1 := cell_of_blk hb 1
      have c2 := cell_of_blk hb 2
      have c3 := cell_of_blk hb 3
      have c4 := cell_of_blk hb 4
      have c5 := cell_of_blk hb 5
      have c6 := cell_of_blk hb 6
      have c7 := cell_of_blk hb 7
      simp only [List.size_toArray, List.getElem?_toArray, List.getElem?_cons_zero, List.getElem?_cons_succ] at c0 c1 c2 c3 c4 c5 c6 c7
      have HX := Lib.hid X
      clear X hb hsz
      go_enter Tryd.func16, Tryd.ntmps16
      go_wp2_with fail
      go_ret
      exact ⟨by first | (rw [HR.out]; rfl) | rw [HR.out], HX.out⟩
  · have de : ((e : Int) == 0) = false := beq_eq_false_iff_ne.2 (by omega)
    have HR : Hid (mayB ⟨1, e, sz, ix, od, bg, fi, lv⟩ = false) := Lib.hid (by simp [mayB, okQ, goesB, askE, askL, mayNum, askN, numQ, List.range, List.range.loop, he])
    have X := (Upd.refl none' w).alloc (.cells #[.int .u8 1, .int .u8 e, .int .u64 sz, .int .u64 ix, .int .u64 od, .int .u64 bg, .int .u64 fi, .slice ad lv.length ca] 45)
    have hb := blk_alloc w (.cells #[.int .u8 1, .int .u8 e, .int .u64 sz, .int .u64 ix, .int .u64 od, .int .u64 bg, .int .u64 fi, .slice ad lv.length ca] 45)
    have c0 := cell_of_blk hb 0
    have c1 := cell_of_blk hb 1
    have c2 := cell_of_blk hb 2
    have c3 := cell_of_blk hb 3
    have c4 := cell_of_blk hb 4
    have c5 := cell_of_blk hb 5
    have c6 := cell_of_blk hb 6
    have c7 := cell_of_blk hb 7
    simp only [List.size_toArray, List.getElem?_toArray, List.getElem?_cons_zero, List.getElem?_cons_succ] at c0 c1 c2 c3 c4 c5 c6 c7
    have HX := Lib.hid X
    clear X hb he
    go_enter Tryd.func16, Tryd.ntmps16
    go_wp2_with fail
    go_ret
    exact ⟨by first | (rw [HR.out]; rfl) | rw [HR.out], HX.out⟩
set_option maxRecDepth 8000 in
set_option maxHeartbeats 8000000 in
theorem mayL_2 {w : World} (e sz ix od bg fi : Nat) (lv : List ByteArray) (ad : Option Addr) (ca : Nat) : Calls Tryd.prog 16 #[.agg #[.int .u8 2, .int .u8 e, .int .u64 sz, .int .u64 ix, .int .u64 od, .int .u64 bg, .int .u64 fi, .slice ad lv.length ca]] w fun x w' => x = .returned (.bool (mayB ⟨2, e, sz, ix, od, bg, fi, lv⟩)) ∧ Ext w w' := by
  by_cases he : e = 0
  · subst he
    have HR : Hid (mayB ⟨2, 0, sz, ix, od, bg, fi, lv⟩ = false) := Lib.hid (by simp [mayB, okQ, goesB, askE, askL, mayNum, askN, numQ, List.range, List.range.loop])
    have X := (Upd.refl none' w).alloc (.cells #[.int .u8 2, .int .u8 0, .int .u64 sz, .int .u64 ix, .int .u64 od, .int .u64 bg, .int .u64 fi, .slice ad lv.length ca] 45)
    have hb := blk_alloc w (.cells #[.int .u8 2, .int .u8 0, .int .u64 sz, .int .u64 ix, .int .u64 od, .int .u64 bg, .int .u64 fi, .slice ad lv.length ca] 45)
    have c0 := cell_of_blk hb 0
    have c1 := cell_of_blk hb 1
    have c2 := cell_of_blk hb 2
    have c3 := cell_of_blk hb 3
    have c4 := cell_of_blk hb 4
    have c5 := cell_of_blk hb 5
    have c6 := cell_of_blk hb 6
    have c7 := cell_of_blk hb 7
    simp only [List.size_toArray, List.getElem?_toArray, List.getElem?_cons_zero, List.getElem?_cons_succ] at c0 c1 c2 c3 c4 c5 c6 c7
    have HX := Lib.hid X
    clear X hb
    go_enter Tryd.func16, Tryd.ntmps16
    go_wp2_with fail
    go_ret
    exact ⟨by first | (rw [HR.out]; rfl) | rw [HR.out], HX.out⟩
  · have de : ((e : Int) == 0) = false := beq_eq_false_iff_ne.2 (by omega)
    by_cases h3 : 3 < e
    · have d3 : (3 : Int) < e := by omega
      have h3b : ¬ e ≤ 3 := by omega
      clear h3
      have HR : Hid (mayB ⟨2, e, sz, ix, od, bg, fi, lv⟩ = false) := Lib.hid (by simp [mayB, okQ, goesB, askE, askL, mayNum, askN, numQ, List.range, List.range.loop, he, h3b])
      have X := (Upd.refl none' w).alloc (.cells #[.int .u8 2, .int .u8 e, .int .u64 sz, .int .u64 ix, .int .u64 od, .int .u64 bg, .int .u64 fi, .slice ad lv.length ca] 45)
      have hb := blk_alloc w (.cells #[.int .u8 2, .int .u8 e, .int .u64 sz, .int .u64 ix, .int .u64 od, .int .u64 bg, .int .u64 fi, .slice ad lv.length ca] 45)
      have c0 := cell_of_blk hb 0
      have c1 := cell_of_blk hb 1
      have c2 := cell_of_blk hb 2
      have c3 := cell_of_blk hb 3
      have c4 := cell_of_blk hb 4
      have c5 := cell_of_blk hb 5
      have c6 := cell_of_blk hb 6
      have c7 := cell_of_blk hb 7
      simp only [List.size_toArray, List.getElem?_toArray, List.getElem?_cons_zero, List.getElem?_cons_succ] at c0 c1 c2 c3 c4 c5 c6 c7
      have HX := Lib.hid X
      clear X hb he h3b
      go_enter Tryd.func16, Tryd.ntmps16
      go_wp2_with fail
      go_ret
      exact ⟨by first | (rw [HR.out]; rfl) | rw [HR.out], HX.out⟩
    · have d3 : ¬ (3 : Int) < e := by omega
      have h1b : 1 ≤ e := by omega
      have h3b : e ≤ 3 := by omega
      clear h3 he
      by_cases hix : ix = 0
      · subst hix
        by_cases hod : od = 0
        · subst hod
          by_cases hbg : bg = 0
          · subst hbg
            by_cases hfi : fi = 0
            · subst hfi
              by_cases hl : lv.length = 0
              · obtain rfl : lv = [] := List.length_eq_zero_iff.1 hl
                simp only [List.length_nil]
                clear hl
                have HR : Hid (mayB ⟨2, e, sz, 0, 0, 0, 0, []⟩ = true) := Lib.hid (by simp [mayB, okQ, goesB, askE, askL, mayNum, askN, numQ, List.range, List.range.loop, h1b, h3b])
                have X := (Upd.refl none' w).alloc (.cells #[.int .u8 2, .int .u8 e, .int .u64 sz, .int .u64 0, .int .u64 0, .int .u64 0, .int .u64 0, .slice ad 0 ca] 45)
                have hb := blk_alloc w (.cells #[.int .u8 2, .int .u8 e, .int .u64 sz, .int .u64 0, .int .u64 0, .int .u64 0, .int .u64 0, .slice ad 0 ca] 45)
                have c0 := cell_of_blk hb 0
                have c1 := cell_of_blk hb 1
                have c2 := cell_of_blk hb 2
                have c3 := cell_of_blk hb 3
                have c4 := cell_of_blk hb 4
                have c5 := cell_of_blk hb 5
                have c6 := cell_of_blk hb 6
                have c7 := cell_of_blk hb 7
                simp only [List.size_toArray, List.getElem?_toArray, List.getElem?_cons_zero, List.getElem?_cons_succ] at c0 c1 c2 c3 c4 c5 c6 c7
                have HX := Lib.hid X
                clear X hb h1b h3b
                go_enter Tryd.func16, Tryd.ntmps16
                go_wp2_with fail
                go_ret
                exact ⟨by first | (rw [HR.out]; rfl) | rw [HR.out], HX.out⟩
              · have dl : ((lv.length : Int) == 0) = false := beq_eq_false_iff_ne.2 (by omega)
                have hl2 : lv ≠ [] := fun h => hl (by rw [h]; rfl)
                clear hl
                have HR : Hid (mayB ⟨2, e, sz, 0, 0, 0, 0, lv⟩ = false) := Lib.hid (by simp [mayB, okQ, goesB, askE, askL, mayNum, askN, numQ, List.range, List.range.loop, h1b, h3b, hl2])
                have X := (Upd.refl none' w).alloc (.cells #[.int .u8 2, .int .u8 e, .int .u64 sz, .int .u64 0, .int .u64 0, .int .u64 0, .int .u64 0, .slice ad lv.length ca] 45)
                have hb := blk_alloc w (.cells #[.int .u8 2, .int .u8 e, .int .u64 sz, .int .u64 0, .int .u64 0, .int .u64 0, .int .u64 0, .slice ad lv.length ca] 45)
                have c0 := cell_of_blk hb 0
                have c1 := cell_of_blk hb 1
                have c2 := cell_of_blk hb 2
                have c3 := cell_of_blk hb 3
                have c4 := cell_of_blk hb 4
                have c5 := cell_of_blk hb 5
                have c6 := cell_of_blk hb 6
                have c7 := cell_of_blk hb 7
                simp only [List.size_toArray, List.getElem?_toArray, List.getElem?_cons_zero, List.getElem?_cons_succ] at c0 c1 c2 c3 c4 c5 c6 c7
                have HX := Lib.hid X
                clear X hb h1b h3b hl2
                go_enter Tryd.func16, Tryd.ntmps16
                go_wp2_with fail
                go_ret
                exact ⟨by first | (rw [HR.out]; rfl) | rw [HR.out], HX.out⟩
            · have dfi : ((fi : Int) == 0) = false := beq_eq_false_iff_ne.2 (by omega)
              have HR : Hid (mayB ⟨2, e, sz, 0, 0, 0, fi, lv⟩ = false) := Lib.hid (by simp [mayB, okQ, goesB, askE, askL, mayNum, askN, numQ, List.range, List.range.loop, h1b, h3b, hfi])
              have X := (Upd.refl none' w).alloc (.cells #[.int .u8 2, .int .u8 e, .int .u64 sz, .int .u64 0, .int .u64 0, .int .u64 0, .int .u64 fi, .slice ad lv.length ca] 45)
              have hb := blk_alloc w (.cells #[.int .u8 2, .int .u8 e, .int .u64 sz, .int .u64 0, .int .u64 0, .int .u64 0, .int .u64 fi, .slice ad lv.length ca] 45)
              have c0 := cell_of_blk hb 0
              have c1 := cell_of_blk hb 1
              have c2 := cell_of_blk hb 2
              have c3 := cell_of_blk hb 3
              have c4 := cell_of_blk hb 4
              have c5 := cell_of_blk hb 5
              have c6 := cell_of_blk hb 6
              have c7 := cell_of_blk hb 7
              simp only [List.size_toArray, List.getElem?_toArray, List.getElem?_cons_zero, List.getElem?_cons_succ] at c0 c1 c2 c3 c4 c5 c6 c7
              have HX := Lib.hid X
              clear X hb h1b h3b hfi
              go_enter Tryd.func16, Tryd.ntmps16
              go_wp2_with fail
              go_ret
              exact ⟨by first | (rw [HR.out]; rfl) | rw [HR.out], HX.out⟩
          · have dbg : ((bg : Int) == 0) = false := beq_eq_false_iff_ne.2 (by omega)
            have HR : Hid (mayB ⟨2, e, sz, 0, 0, bg, fi, lv⟩ = false) := Lib.hid (by simp [mayB, okQ, goesB, askE, askL, mayNum, askN, numQ, List.range, List.range.loop, h1b, h3b, hbg])
            have X := (Upd.refl none' w).alloc (.cells #[.int .u8 2, .int .u8 e, .int .u64 sz, .int .u64 0, .int .u64 0, .int .u64 bg, .int .u64 fi, .slice ad lv.length ca] 45)
            have hb := blk_alloc w (.cells #[.int .u8 2, .int .u8 e, .int .u64 sz, .int .u64 0, .int .u64 0, .int .u64 bg, .int .u64 fi, .slice ad lv.length ca] 45)
            have c0 := cell_of_blk hb 0
            have c1 := cell_of_blk hb 1
            have c2 := cell_of_blk hb 2
            have c3 := cell_of_blk hb 3
            have c4 := cell_of_blk hb 4
            have c5 := cell_of_blk hb 5
            have c6 := cell_of_blk hb 6
            have c7 := cell_of_blk hb 7
            simp only [List.size_toArray, List.getElem?_toArray, List.getElem?_cons_zero, List.getElem?_cons_succ] at c0 c1 c2 c3 c4 c5 c6 c7
            have HX := Lib.hid X
            clear X hb h1b h3b hbg
            go_enter Tryd.func16, Tryd.ntmps16
            go_wp2_with fail
            go_ret
            exact ⟨by first | (rw [HR.out]; rfl) | rw [HR.out], HX.out⟩
        · have dod : ((od : Int) == 0) = false := beq_eq_false_iff_ne.2 (by omega)
          have HR : Hid (mayB ⟨2, e, sz, 0, od, bg, fi, lv⟩ = false) := Lib.hid (by simp [mayB, okQ, goesB, askE, askL, mayNum, askN, numQ, List.range, List.range.loop, h1b, h3b, hod])
          have X := (Upd.refl none' w).alloc (.cells #[.int .u8 2, .int .u8 e, .int .u64 sz, .int .u64 0, .int .u64 od, .int .u64 bg, .int .u64 fi, .slice ad lv.length ca] 45)
          have hb := blk_alloc w (.cells #[.int .u8 2, .int .u8 e, .int .u64 sz, .int .u64 0, .int .u64 od, .int .u64 bg, .int .u64 fi, .slice ad lv.length ca] 45)
          have c0 := cell_of_blk hb 0
          have c1 := cell_of_blk hb 1
          have c2 := cell_of_blk hb 2
          have c3 := cell_of_blk hb 3
          have c4 := cell_of_blk hb 4
          have c5 := cell_of_blk hb 5
          have c6 := cell_of_blk hb 6
          have c7 := cell_of_blk hb 7
          simp only [List.size_toArray, List.getElem?_toArray, List.getElem?_cons_zero, List.getElem?_cons_succ] at c0 c1 c2 c3 c4 c5 c6 c7
          have HX := Lib.hid X
          clear X hb h1b h3b hod
          go_enter Tryd.func16, Tryd.ntmps16
          go_wp2_with fail
          go_ret
          exact ⟨by first | (rw [HR.out]; rfl) | rw [HR.out], HX.out⟩
      · have dix : ((ix : Int) == 0) = false := beq_eq_false_iff_ne.2 (by omega)
        have HR : Hid (mayB ⟨2, e, sz, ix, od, bg, fi, lv⟩ = false) := Lib.hid (by simp [mayB, okQ, goesB, askE, askL, mayNum, askN, numQ, List.range, List.range.loop, h1b, h3b, hix])
        have X := (Upd.refl none' w).alloc (.cells #[.int .u8 2, .int .u8 e, .int .u64 sz, .int .u64 ix, .int .u64 od, .int .u64 bg, .int .u64 fi, .slice ad lv.length ca] 45)
        have hb := blk_alloc w (.cells #[.int .u8 2, .int .u8 e, .int .u64 sz, .int .u64 ix, .int .u64 od, .int .u64 bg, .int .u64 fi, .slice ad lv.length ca] 45)
        have c0 := cell_of_blk hb 0
        have c1 := cell_of_blk hb 1
        have c2 := cell_of_blk hb 2
        have c3 := cell_of_blk hb 3
        have c4 := cell_of_blk hb 4
        have c5 := cell_of_blk hb 5
        have c6 := cell_of_blk hb 6
        have c7 := cell_of_blk hb 7
        simp only [List.size_toArray, List.getElem?_toArray, List.getElem?_cons_zero, List.getElem?_cons_succ] at c0 c1 c2 c3 c4 c5 c6 c7
        have HX := Lib.hid X
        clear X hb h1b h3b hix
        go_enter Tryd.func16, Tryd.ntmps16
        go_wp2_with fail
        go_ret
        exact ⟨by first | (rw [HR.out]; rfl) | rw [HR.out], HX.out⟩
set_option maxRecDepth 8000 in
set_option maxHeartbeats 8000000 in
theorem mayL_3 {w : World} (e sz ix od bg fi : Nat) (lv : List ByteArray) (ad : Option Addr) (ca : Nat) : Calls Tryd.prog 16 #[.agg #[.int .u8 3, .int .u8 e, .int .u64 sz, .int .u64 ix, .int .u64 od, .int .u64 bg, .int .u64 fi, .slice ad lv.length ca]] w fun x w' => x = .returned (.bool (mayB ⟨3, e, sz, ix, od, bg, fi, lv⟩)) ∧ Ext w w' := by
  by_cases he : e = 0
  · subst he
    have HR : Hid (mayB ⟨3, 0, sz, ix, od, bg, fi, lv⟩ = false) := Lib.hid (by simp [mayB, okQ, goesB, askE, askL, mayNum, askN, numQ, List.range, List.range.loop])
    have X := (Upd.refl none' w).alloc (.cells #[.int .u8 3, .int .u8 0, .int .u64 sz, .int .u64 ix, .int .u64 od, .int .u64 bg, .int .u64 fi, .slice ad lv.length ca] 45)
    have hb := blk_alloc w (.cells #[.int .u8 3, .int .u8 0, .int .u64 sz, .int .u64 ix, .int .u64 od, .int .u64 bg, .int .u64 fi, .slice ad lv.length ca] 45)
    have c0 := cell_of_blk hb 0
    have c1 := cell_of_blk hb 1
    have c2 := cell_of_blk hb 2
    have c3 := cell_of_blk hb 3
    have c4 := cell_of_blk hb 4
    have c5 := cell_of_blk hb 5
    have c6 := cell_of_blk hb 6
    have c7 := cell_of_blk hb 7
    simp only [List.size_toArray, List.getElem?_toArray, List.getElem?_cons_zero, List.getElem?_cons_succ] at c0 c1 c2 c3 c4 c5 c6 c7
    have HX := Lib.hid X
    clear X hb
    go_enter Tryd.func16, Tryd.ntmps16
    go_wp2_with fail
    go_ret
    exact ⟨by first | (rw [HR.out]; rfl) | rw [HR.out], HX.out⟩
  · have de : ((e : Int) == 0) = false := beq_eq_false_iff_ne.2 (by omega)
    by_cases h3 : 3 < e
    · have d3 : (3 : Int) < e := by omega
      have h3b : ¬ e ≤ 3 := by omega
      clear h3
      have HR : Hid (mayB ⟨3, e, sz, ix, od, bg, fi, lv⟩ = false) := Lib.hid (by simp [mayB, okQ, goesB, askE, askL, mayNum, askN, numQ, List.range, List.range.loop, he, h3b])
      have X := (Upd.refl none' w).alloc (.cells #[.int .u8 3, .int .u8 e, .int .u64 sz, .int .u64 ix, .int .u64 od, .int .u64 bg, .int .u64 fi, .slice ad lv.length ca] 45)
      have hb := blk_alloc w (.cells #[.int .u8 3, .int .u8 e, .int .u64 sz, .int .u64 ix, .int .u64 od, .int .u64 bg, .int .u64 fi, .slice ad lv.length ca] 45)
      have c0 := cell_of_blk hb 0
      have c1 := cell_of_blk hb 1
      have c2 := cell_of_blk hb 2
      have c3 := cell_of_blk hb 3
      have c4 := cell_of_blk hb 4
      have c5 := cell_of_blk hb 5
      have c6 := cell_of_blk hb 6
      have c7 := cell_of_blk hb 7
      simp only [List.size_toArray, List.getElem?_toArray, List.getElem?_cons_zero, List.getElem?_cons_succ] at c0 c1 c2 c3 c4 c5 c6 c7
      have HX := Lib.hid X
      clear X hb he h3b
      go_enter Tryd.func16, Tryd.ntmps16
      go_wp2_with fail
      go_ret
      exact ⟨by first | (rw [HR.out]; rfl) | rw [HR.out], HX.out⟩
    · have d3 : ¬ (3 : Int) < e := by omega
      have h1b : 1 ≤ e := by omega
      have h3b : e ≤ 3 := by omega
      clear h3 he
      by_cases hod : od = 0
      · subst hod
        by_cases hbg : bg = 0
        · subst hbg
          by_cases hfi : fi = 0
          · subst hfi
            by_cases hl : lv.length = 0
            · obtain rfl : lv = [] := List.length_eq_zero_iff.1 hl
              simp only [List.length_nil]
              clear hl
              have HR : Hid (mayB ⟨3, e, sz, ix, 0, 0, 0, []⟩ = true) := Lib.hid (by simp [mayB, okQ, goesB, askE, askL, mayNum, askN, numQ, List.range, List.range.loop, h1b, h3b])
              have X := (Upd.refl none' w).alloc (.cells #[.int .u8 3, .int .u8 e, .int .u64 sz, .int .u64 ix, .int .u64 0, .int .u64 0, .int .u64 0, .slice ad 0 ca] 45)
              have hb := blk_alloc w (.cells #[.int .u8 3, .int .u8 e, .int .u64 sz, .int .u64 ix, .int .u64 0, .int .u64 0, .int .u64 0, .slice ad 0 ca] 45)
              have c0 := cell_of_blk hb 0
              have c1 := cell_of_blk hb 1
              have c2 := cell_of_blk hb 2
              have c3 := cell_of_blk hb 3
              have c4 := cell_of_blk hb 4
              have c5 := cell_of_blk hb 5
              have c6 := cell_of_blk hb 6
              have c7 := cell_of_blk hb 7
              simp only [List.size_toArray, List.getElem?_toArray, List.getElem?_cons_zero, List.getElem?_cons_succ] at c0 c1 c2 c3 c4 c5 c6 c7
              have HX := Lib.hid X
              clear X hb h1b h3b
              go_enter Tryd.func16, Tryd.ntmps16
              go_wp2_with fail
              go_ret
              exact ⟨by first | (rw [HR.out]; rfl) | rw [HR.out], HX.out⟩
            · have dl : ((lv.length : Int) == 0) = false := beq_eq_false_iff_ne.2 (by omega)
              have hl2 : lv ≠ [] := fun h => hl (by rw [h]; rfl)
              clear hl
              have HR : Hid (mayB ⟨3, e, sz, ix, 0, 0, 0, lv⟩ = false) := Lib.hid (by simp [mayB, okQ, goesB, askE, askL, mayNum, askN, numQ, List.range, List.range.loop, h1b, h3b, hl2])
              have X := (Upd.refl none' w).alloc (.cells #[.int .u8 3, .int .u8 e, .int .u64 sz, .int .u64 ix, .int .u64 0, .int .u64 0, .int .u64 0, .slice ad lv.length ca] 45)
              have hb := blk_alloc w (.cells #[.int .u8 3, .int .u8 e, .int .u64 sz, .int .u64 ix, .int .u64 0, .int .u64 0, .int .u64 0, .slice ad lv.length ca] 45)
              have c0 := cell_of_blk hb 0
              have c1 := cell_of_blk hb 1
              have c2 := cell_of_blk hb 2
              have c3 := cell_of_blk hb 3
              have c4 := cell_of_blk hb 4
              have c5 := cell_of_blk hb 5
              have c6 := cell_of_blk hb 6
              have c7 := cell_of_blk hb 7
              simp only [List.size_toArray, List.getElem?_toArray, List.getElem?_cons_zero, List.getElem?_cons_succ] at c0 c1 c2 c3 c4 c5 c6 c7
              have HX := Lib.hid X
              clear X hb h1b h3b hl2
              go_enter Tryd.func16, Tryd.ntmps16
              go_wp2_with fail
              go_ret
              exact ⟨by first | (rw [HR.out]; rfl) | rw [HR.out], HX.out⟩
          · have dfi : ((fi : Int) == 0) = false := beq_eq_false_iff_ne.2 (by omega)
            have HR : Hid (mayB ⟨3, e, sz, ix, 0, 0, fi, lv⟩ = false) := Lib.hid (by simp [mayB, okQ, goesB, askE, askL, mayNum, askN, numQ, List.range, List.range.loop, h1b, h3b, hfi])
            have X := (Upd.refl none' w).alloc (.cells #[.int .u8 3, .int .u8 e, .int .u64 sz, .int .u64 ix, .int .u64 0, .int .u64 0, .int .u64 fi, .slice ad lv.length ca] 45)
            have hb := blk_alloc w (.cells #[.int .u8 3, .int .u8 e, .int .u64 sz, .int .u64 ix, .int .u64 0, .int .u64 0, .int .u64 fi, .slice ad lv.length ca] 45)
            have c0 := cell_of_blk hb 0
            have c1 := cell_of_blk hb 1
            have c2 := cell_of_blk hb 2
            have c3 := cell_of_blk hb 3
            have c4 := cell_of_blk hb 4
            have c5 := cell_of_blk hb 5
            have c6 := cell_of_blk hb 6
            have c7 := cell_of_blk hb 7
            simp only [List.size_toArray, List.getElem?_toArray, List.getElem?_cons_zero, List.getElem?_cons_succ] at c0 c1 c2 c3 c4 c5 c6 c7
            have HX := Lib.hid X
            clear X hb h1b h3b hfi
            go_enter Tryd.func16, Tryd.ntmps16
            go_wp2_with fail
            go_ret
            exact ⟨by first | (rw [HR.out]; rfl) | rw [HR.out], HX.out⟩
        · have dbg : ((bg : Int) == 0) = false := beq_eq_false_iff_ne.2 (by omega)
          have HR : Hid (mayB ⟨3, e, sz, ix, 0, bg, fi, lv⟩ = false) := Lib.hid (by simp [mayB, okQ, goesB, askE, askL, mayNum, askN, numQ, List.range, List.range.loop, h1b, h3b, hbg])
          have X := (Upd.refl none' w).alloc (.cells #[.int .u8 3, .int .u8 e, .int .u64 sz, .int .u64 ix, .int .u64 0, .int .u64 bg, .int .u64 fi, .slice ad lv.length ca] 45)
          have hb := blk_alloc w (.cells #[.int .u8 3, .int .u8 e, .int .u64 sz, .int .u64 ix, .int .u64 0, .int .u64 bg, .int .u64 fi, .slice ad lv.length ca] 45)
          have c0 := cell_of_blk hb 0
          have c1 := cell_of_blk hb 1
          have c2 := cell_of_blk hb 2
          have c3 := cell_of_blk hb 3
          have c4 := cell_of_blk hb 4
          have c5 := cell_of_blk hb 5
          have c6 := cell_of_blk hb 6
          have c7 := cell_of_blk hb 7
          simp only [List.size_toArray, List.getElem?_toArray, List.getElem?_cons_zero, List.getElem?_cons_succ] at c0 c1 c2 c3 c4 c5 c6 c7
          have HX := Lib.hid X
          clear X hb h1b h3b hbg
          go_enter Tryd.func16, Tryd.ntmps16
          go_wp2_with fail
          go_ret
          exact ⟨by first | (rw [HR.out]; rfl) | rw [HR.out], HX.out⟩
      · have dod : ((od : Int) == 0) = false := beq_eq_false_iff_ne.2 (by omega)
        have HR : Hid (mayB ⟨3, e, sz, ix, od, bg, fi, lv⟩ = false) := Lib.hid (by simp [mayB, okQ, goesB, askE, askL, mayNum, askN, numQ, List.range, List.range.loop, h1b, h3b, hod])
        have X := (Upd.refl none' w).alloc (.cells #[.int .u8 3, .int .u8 e, .int .u64 sz, .int .u64 ix, .int .u64 od, .int .u64 bg, .int .u64 fi, .slice ad lv.length ca] 45)
        have hb := blk_alloc w (.cells #[.int .u8 3, .int .u8 e, .int .u64 sz, .int .u64 ix, .int .u64 od, .int .u64 bg, .int .u64 fi, .slice ad lv.length ca] 45)
        have c0 := cell_of_blk hb 0
        have c1 := cell_of_blk hb 1
        have c2 := cell_of_blk hb 2
        have c3 := cell_of_blk hb 3
        have c4 := cell_of_blk hb 4
        have c5 := cell_of_blk hb 5
        have c6 := cell_of_blk hb 6
        have c7 := cell_of_blk hb 7
        simp only [List.size_toArray, List.getElem?_toArray, List.getElem?_cons_zero, List.getElem?_cons_succ] at c0 c1 c2 c3 c4 c5 c6 c7
        have HX := Lib.hid X
        clear X hb h1b h3b hod
        go_enter Tryd.func16, Tryd.ntmps16
        go_wp2_with fail
        go_ret
        exact ⟨by first | (rw [HR.out]; rfl) | rw [HR.out], HX.out⟩
set_option maxRecDepth 8000 in
set_option maxHeartbeats 8000000 in
theorem mayL_4 {w : World} (e sz ix od bg fi : Nat) (lv : List ByteArray) (ad : Option Addr) (ca : Nat) : Calls Tryd.prog 16 #[.agg #[.int .u8 4, .int .u8 e, .int .u64 sz, .int .u64 ix, .int .u64 od, .int .u64 bg, .int .u64 fi, .slice ad lv.length ca]] w fun x w' => x = .returned (.bool (mayB ⟨4, e, sz, ix, od, bg, fi, lv⟩)) ∧ Ext w w' := by
  by_cases he : e = 0
  · subst he
    have HR : Hid (mayB ⟨4, 0, sz, ix, od, bg, fi, lv⟩ = false) := Lib.hid (by simp [mayB, okQ, goesB, askE, askL, mayNum, askN, numQ, List.range, List.range.loop])
    have X := (Upd.refl none' w).alloc (.cells #[.int .u8 4, .int .u8 0, .int .u64 sz, .int .u64 ix, .int .u64 od, .int .u64 bg, .int .u64 fi, .slice ad lv.length ca] 45)
    have hb := blk_alloc w (.cells #[.int .u8 4, .int .u8 0, .int .u64 sz, .int .u64 ix, .int .u64 od, .int .u64 bg, .int .u64 fi, .slice ad lv.length ca] 45)
    have c0 := cell_of_blk hb 0
    have c1 := cell_of_blk hb 1
    have c2 := cell_of_blk hb 2
    have c3 := cell_of_blk hb 3
    have c4 := cell_of_blk hb 4
    have c5 := cell_of_blk hb 5
    have c6 := cell_of_blk hb 6
    have c7 := cell_of_blk hb 7
    simp only [List.size_toArray, List.getElem?_toArray, List.getElem?_cons_zero, List.getElem?_cons_succ] at c0 c1 c2 c3 c4 c5 c6 c7
    have HX := Lib.hid X
    clear X hb
    go_enter Tryd.func16, Tryd.ntmps16
    go_wp2_with fail
    go_ret
    exact ⟨by first | (rw [HR.out]; rfl) | rw [HR.out], HX.out⟩
  · have de : ((e : Int) == 0) = false := beq_eq_false_iff_ne.2 (by omega)
    by_cases h3 : 3 < e
    · have d3 : (3 : Int) < e := by omega
      have h3b : ¬ e ≤ 3 := by omega
      clear h3
      have HR : Hid (mayB ⟨4, e, sz, ix, od, bg, fi, lv⟩ = false) := Lib.hid (by simp [mayB, okQ, goesB, askE, askL, mayNum, askN, numQ, List.range, List.range.loop, he, h3b])
      have X := (Upd.refl none' w).alloc (.cells #[.int .u8 4, .int .u8 e, .int .u64 sz, .int .u64 ix, .int .u64 od, .int .u64 bg, .int .u64 fi, .slice ad lv.length ca] 45)
      have hb := blk_alloc w (.cells #[.int .u8 4, .int .u8 e, .int .u64 sz, .int .u64 ix, .int .u64 od, .int .u64 bg, .int .u64 fi, .slice ad lv.length ca] 45)
      have c0 := cell_of_blk hb 0
      have c1 := cell_of_blk hb 1
      have c2 := cell_of_blk hb 2
      have c3 := cell_of_blk hb 3
      have c4 := cell_of_blk hb 4
      have c5 := cell_of_blk hb 5
      have c6 := cell_of_blk hb 6
      have c7 := cell_of_blk hb 7
      simp only [List.size_toArray, List.getElem?_toArray, List.getElem?_cons_zero, List.getElem?_cons_succ] at c0 c1 c2 c3 c4 c5 c6 c7
      have HX := Lib.hid X
      clear X hb he h3b
      go_enter Tryd.func16, Tryd.ntmps16
      go_wp2_with fail
      go_ret
      exact ⟨by first | (rw [HR.out]; rfl) | rw [HR.out], HX.out⟩
    · have d3 : ¬ (3 : Int) < e := by omega
      have h1b : 1 ≤ e := by omega
      have h3b : e ≤ 3 := by omega
      clear h3 he
      by_cases hix : ix = 0
      · subst hix
        by_cases hbg : bg = 0
        · subst hbg
          by_cases hfi : fi = 0
          · subst hfi
            by_cases hl : lv.length = 0
            · obtain rfl : lv = [] := List.length_eq_zero_iff.1 hl
              simp only [List.length_nil]
              clear hl
              have HR : Hid (mayB ⟨4, e, sz, 0, od, 0, 0, []⟩ = true) := Lib.hid (by simp [mayB, okQ, goesB, askE, askL, mayNum, askN, numQ, List.range, List.range.loop, h1b, h3b])
              have X := (Upd.refl none' w).alloc (.cells #[.int .u8 4, .int .u8 e, .int .u64 sz, .int .u64 0, .int .u64 od, .int .u64 0, .int .u64 0, .slice ad 0 ca] 45)
              have hb := blk_alloc w (.cells #[.int .u8 4, .int .u8 e, .int .u64 sz, .int .u64 0, .int .u64 od, .int .u64 0, .int .u64 0, .slice ad 0 ca] 45)
              have c0 := cell_of_blk hb 0
              have c1 := cell_of_blk hb 1
              have c2 := cell_of_blk hb 2
              have c3 := cell_of_blk hb 3
              have c4 := cell_of_blk hb 4
              have c5 := cell_of_blk hb 5
              have c6 := cell_of_blk hb 6
              have c7 := cell_of_blk hb 7
              simp only [List.size_toArray, List.getElem?_toArray, List.getElem?_cons_zero, List.getElem?_cons_succ] at c0 c1 c2 c3 c4 c5 c6 c7
              have HX := Lib.hid X
              clear X hb h1b h3b
              go_enter Tryd.func16, Tryd.ntmps16
              go_wp2_with fail
              go_ret
              exact ⟨by first | (rw [HR.out]; rfl) | rw [HR.out], HX.out⟩
            · have dl : ((lv.length : Int) == 0) = false := beq_eq_false_iff_ne.2 (by omega)
              have hl2 : lv ≠ [] := fun h => hl (by rw [h]; rfl)
              clear hl
              have HR : Hid (mayB ⟨4, e, sz, 0, od, 0, 0, lv⟩ = false) := Lib.hid (by simp [mayB, okQ, goesB, askE, askL, mayNum, askN, numQ, List.range, List.range.loop, h1b, h3b, hl2])
              have X := (Upd.refl none' w).alloc (.cells #[.int .u8 4, .int .u8 e, .int .u64 sz, .int .u64 0, .int .u64 od, .int .u64 0, .int .u64 0, .slice ad lv.length ca] 45)
              have hb := blk_alloc w (.cells #[.int .u8 4, .int .u8 e, .int .u64 sz, .int .u64 0, .int .u64 od, .int .u64 0, .int .u64 0, .slice ad lv.length ca] 45)
              have c0 := cell_of_blk hb 0
              have c1 := cell_of_blk hb 1
              have c2 := cell_of_blk hb 2
              have c3 := cell_of_blk hb 3
              have c4 := cell_of_blk hb 4
              have c5 := cell_of_blk hb 5
              have c6 := cell_of_blk hb 6
              have c7 := cell_of_blk hb 7
              simp only [List.size_toArray, List.getElem?_toArray, List.getElem?_cons_zero, List.getElem?_cons_succ] at c0 c1 c2 c3 c4 c5 c6 c7
              have HX := Lib.hid X
              clear X hb h1b h3b hl2
              go_enter Tryd.func16, Tryd.ntmps16
              go_wp2_with fail
              go_ret
              exact ⟨by first | (rw [HR.out]; rfl) | rw [HR.out], HX.out⟩
          · have dfi : ((fi : Int) == 0) = false := beq_eq_false_iff_ne.2 (by omega)
            have HR : Hid (mayB ⟨4, e, sz, 0, od, 0, fi, lv⟩ = false) := Lib.hid (by simp [mayB, okQ, goesB, askE, askL, mayNum, askN, numQ, List.range, List.range.loop, h1b, h3b, hfi])
            have X := (Upd.refl none' w).alloc (.cells #[.int .u8 4, .int .u8 e, .int .u64 sz, .int .u64 0, .int .u64 od, .int .u64 0, .int .u64 fi, .slice ad lv.length ca] 45)
            have hb := blk_alloc w (.cells #[.int .u8 4, .int .u8 e, .int .u64 sz, .int .u64 0, .int .u64 od, .int .u64 0, .int .u64 fi, .slice ad lv.length ca] 45)
            have c0 := cell_of_blk hb 0
            have c1 := cell_of_blk hb 1
            have c2 := cell_of_blk hb 2
            have c3 := cell_of_blk hb 3
            have c4 := cell_of_blk hb 4
            have c5 := cell_of_blk hb 5
            have c6 := cell_of_blk hb 6
            have c7 := cell_of_blk hb 7
            simp only [List.size_toArray, List.getElem?_toArray, List.getElem?_cons_zero, List.getElem?_cons_succ] at c0 c1 c2 c3 c4 c5 c6 c7
            have HX := Lib.hid X
            clear X hb h1b h3b hfi
            go_enter Tryd.func16, Tryd.ntmps16
            go_wp2_with fail
            go_ret
            exact ⟨by first | (rw [HR.out]; rfl) | rw [HR.out], HX.out⟩
        · have dbg : ((bg : Int) == 0) = false := beq_eq_false_iff_ne.2 (by omega)
          have HR : Hid (mayB ⟨4, e, sz, 0, od, bg, fi, lv⟩ = false) := Lib.hid (by simp [mayB, okQ, goesB, askE, askL, mayNum, askN, numQ, List.range, List.range.loop, h1b, h3b, hbg])
          have X := (Upd.refl none' w).alloc (.cells #[.int .u8 4, .int .u8 e, .int .u64 sz, .int .u64 0, .int .u64 od, .int .u64 bg, .int .u64 fi, .slice ad lv.length ca] 45)
          have hb := blk_alloc w (.cells #[.int .u8 4, .int .u8 e, .int .u64 sz, .int .u64 0, .int .u64 od, .int .u64 bg, .int .u64 fi, .slice ad lv.length ca] 45)
          have c0 := cell_of_blk hb 0
          have c1 := cell_of_blk hb 1
          have c2 := cell_of_blk hb 2
          have c3 := cell_of_blk hb 3
          have c4 := cell_of_blk hb 4
          have c5 := cell_of_blk hb 5
          have c6 := cell_of_blk hb 6
          have c7 := cell_of_blk hb 7
          simp only [List.size_toArray, List.getElem?_toArray, List.getElem?_cons_zero, List.getElem?_cons_succ] at c0 c1 c2 c3 c4 c5 c6 c7
          have HX := Lib.hid X
          clear X hb h1b h3b hbg
          go_enter Tryd.func16, Tryd.ntmps16
          go_wp2_with fail
          go_ret
          exact ⟨by first | (rw [HR.out]; rfl) | rw [HR.out], HX.out⟩
      · have dix : ((ix : Int) == 0) = false := beq_eq_false_iff_ne.2 (by omega)
        have HR : Hid (mayB ⟨4, e, sz, ix, od, bg, fi, lv⟩ = false) := Lib.hid (by simp [mayB, okQ, goesB, askE, askL, mayNum, askN, numQ, List.range, List.range.loop, h1b, h3b, hix])
        have X := (Upd.refl none' w).alloc (.cells #[.int .u8 4, .int .u8 e, .int .u64 sz, .int .u64 ix, .int .u64 od, .int .u64 bg, .int .u64 fi, .slice ad lv.length ca] 45)
        have hb := blk_alloc w (.cells #[.int .u8 4, .int .u8 e, .int .u64 sz, .int .u64 ix, .int .u64 od, .int .u64 bg, .int .u64 fi, .slice ad lv.length ca] 45)
        have c0 := cell_of_blk hb 0
        have c1 := cell_of_blk hb 1
        have c2 := cell_of_blk hb 2
        have c3 := cell_of_blk hb 3
        have c4 := cell_of_blk hb 4
        have c5 := cell_of_blk hb 5
        have c6 := cell_of_blk hb 6
        have c7 := cell_of_blk hb 7
        simp only [List.size_toArray, List.getElem?_toArray, List.getElem?_cons_zero, List.getElem?_cons_succ] at c0 c1 c2 c3 c4 c5 c6 c7
        have HX := Lib.hid X
        clear X hb h1b h3b hix
        go_enter Tryd.func16, Tryd.ntmps16
        go_wp2_with fail
        go_ret
        exact ⟨by first | (rw [HR.out]; rfl) | rw [HR.out], HX.out⟩
set_option maxRecDepth 8000 in
set_option maxHeartbeats 8000000 in
theorem mayL_5 {w : World} (e sz ix od bg fi : Nat) (lv : List ByteArray) (ad : Option Addr) (ca : Nat) : Calls Tryd.prog 16 #[.agg #[.int .u8 5, .int .u8 e, .int .u64 sz, .int .u64 ix, .int .u64 od, .int .u64 bg, .int .u64 fi, .slice ad lv.length ca]] w fun x w' => x = .returned (.bool (mayB ⟨5, e, sz, ix, od, bg, fi, lv⟩)) ∧ Ext w w' := by
  by_cases he : e = 0
  · subst he
    have HR : Hid (mayB ⟨5, 0, sz, ix, od, bg, fi, lv⟩ = false) := Lib.hid (by simp [mayB, okQ, goesB, askE, askL, mayNum, askN, numQ, List.range, List.range.loop])
    have X := (Upd.refl none' w).alloc (.cells #[.int .u8 5, .int .u8 0, .int .u64 sz, .int .u64 ix, .int .u64 od, .int .u64 bg, .int .u64 fi, .slice ad lv.length ca] 45)
    have hb := blk_alloc w (.cells #[.int .u8 5, .int .u8 0, .int .u64 sz, .int .u64 ix, .int .u64 od, .int .u64 bg, .int .u64 fi, .slice ad lv.length ca] 45)
    have c0 := cell_of_blk hb 0
    have c1 := cell_of_blk hb 1
    have c2 := cell_of_blk hb 2
    have c3 := cell_of_blk hb 3
    have c4 := cell_of_blk hb 4
    have c5 := cell_of_blk hb 5
    have c6 := cell_of_blk hb 6
    have c7 := cell_of_blk hb 7
    simp only [List.size_toArray, List.getElem?_toArray, List.getElem?_cons_zero, List.getElem?_cons_succ] at c0 c1 c2 c3 c4 c5 c6 c7
    have HX := Lib.hid X
    clear X hb
    go_enter Tryd.func16, Tryd.ntmps16
    go_wp2_with fail
    go_ret
    exact ⟨by first | (rw [HR.out]; rfl) | rw [HR.out], HX.out⟩
  · have de : ((e : Int) == 0) = false := beq_eq_false_iff_ne.2 (by omega)
    by_cases h3 : 3 < e
    · have d3 : (3 : Int) < e := by omega
      have h3b : ¬ e ≤ 3 := by omega
      clear h3
      have HR : Hid (mayB ⟨5, e, sz, ix, od, bg, fi, lv⟩ = false) := Lib.hid (by simp [mayB, okQ, goesB, askE, askL, mayNum, askN, numQ, List.range, List.range.loop, he, h3b])
      have X := (Upd.refl none' w).alloc (.cells #[.int .u8 5, .int .u8 e, .int .u64 sz, .int .u64 ix, .int .u64 od, .int .u64 bg, .int .u64 fi, .slice ad lv.length ca] 45)
      have hb := blk_alloc w (.cells #[.int .u8 5, .int .u8 e, .int .u64 sz, .int .u64 ix, .int .u64 od, .int .u64 bg, .int .u64 fi, .slice ad lv.length ca] 45)
      have c0 := cell_of_blk hb 0
      have c1 := cell_of_blk hb 1
      have c2 := cell_of_blk hb 2
      have c3 := cell_of_blk hb 3
      have c4 := cell_of_blk hb 4
      have c5 := cell_of_blk hb 5
      have c6 := cell_of_blk hb 6
      have c7 := cell_of_blk hb 7
      simp only [List.size_toArray, List.getElem?_toArray, List.getElem?_cons_zero, List.getElem?_cons_succ] at c0 c1 c2 c3 c4 c5 c6 c7
      have HX := Lib.hid X
      clear X hb he h3b
      go_enter Tryd.func16, Tryd.ntmps16
      go_wp2_with fail
      go_ret
      exact ⟨by first | (rw [HR.out]; rfl) | rw [HR.out], HX.out⟩
    · have d3 : ¬ (3 : Int) < e := by omega
      have h1b : 1 ≤ e := by omega
      have h3b : e ≤ 3 := by omega
      clear h3 he
      by_cases hix : ix = 0
      · subst hix
        by_cases hod : od = 0
        · subst hod
          by_cases hl : lv.length = 0
          · obtain rfl : lv = [] := List.length_eq_zero_iff.1 hl
            simp only [List.length_nil]
            clear hl
            have HR : Hid (mayB ⟨5, e, sz, 0, 0, bg, fi, []⟩ = true) := Lib.hid (by simp [mayB, okQ, goesB, askE, askL, mayNum, askN, numQ, List.range, List.range.loop, h1b, h3b])
            have X := (Upd.refl none' w).alloc (.cells #[.int .u8 5, .int .u8 e, .int .u64 sz, .int .u64 0, .int .u64 0, .int .u64 bg, .int .u64 fi, .slice ad 0 ca] 45)
            have hb := blk_alloc w (.cells #[.int .u8 5, .int .u8 e, .int .u64 sz, .int .u64 0, .int .u64 0, .int .u64 bg, .int .u64 fi, .slice ad 0 ca] 45)
            have c0 := cell_of_blk hb 0
            have c1 := cell_of_blk hb 1
            have c2 := cell_of_blk hb 2
            have c3 := cell_of_blk hb 3
            have c4 := cell_of_blk hb 4
            have c5 := cell_of_blk hb 5
            have c6 := cell_of_blk hb 6
            have c7 := cell_of_blk hb 7
            simp only [List.size_toArray, List.getElem?_toArray, List.getElem?_cons_zero, List.getElem?_cons_succ] at c0 c1 c2 c3 c4 c5 c6 c7
            have HX := Lib.hid X
            clear X hb h1b h3b
            go_enter Tryd.func16, Tryd.ntmps16
            go_wp2_with fail
            go_ret
            exact ⟨by first | (rw [HR.out]; rfl) | rw [HR.out], HX.out⟩
          · have dl : ((lv.length : Int) == 0) = false := beq_eq_false_iff_ne.2 (by omega)
            have hl2 : lv ≠ [] := fun h => hl (by rw [h]; rfl)
            clear hl
            have HR : Hid (mayB ⟨5, e, sz, 0, 0, bg, fi, lv⟩ = false) := Lib.hid (by simp [mayB, okQ, goesB, askE, askL, mayNum, askN, numQ, List.range, List.range.loop, h1b, h3b, hl2])
            have X := (Upd.refl none' w).alloc (.cells #[.int .u8 5, .int .u8 e, .int .u64 sz, .int .u64 0, .int .u64 0, .int .u64 bg, .int .u64 fi, .slice ad lv.length ca] 45)
            have hb := blk_alloc w (.cells #[.int .u8 5, .int .u8 e, .int .u64 sz, .int .u64 0, .int .u64 0, .int .u64 bg, .int .u64 fi, .slice ad lv.length ca] 45)
            have c0 := cell_of_blk hb 0
            have c1 := cell_of_blk hb 1
            have c2 := cell_of_blk hb 2
            have c3 := cell_of_blk hb 3
            have c4 := cell_of_blk hb 4
            have c5 := cell_of_blk hb 5
            have c6 := cell_of_blk hb 6
            have c7 := cell_of_blk hb 7
            simp only [List.size_toArray, List.getElem?_toArray, List.getElem?_cons_zero, List.getElem?_cons_succ] at c0 c1 c2 c3 c4 c5 c6 c7
            have HX := Lib.hid X
            clear X hb h1b h3b hl2
            go_enter Tryd.func16, Tryd.ntmps16
            go_wp2_with fail
            go_ret
            exact ⟨by first | (rw [HR.out]; rfl) | rw [HR.out], HX.out⟩
        · have dod : ((od : Int) == 0) = false := beq_eq_false_iff_ne.2 (by omega)
          have HR : Hid (mayB ⟨5, e, sz, 0, od, bg, fi, lv⟩ = false) := Lib.hid (by simp [mayB, okQ, goesB, askE, askL, mayNum, askN, numQ, List.range, List.range.loop, h1b, h3b, hod])
          have X := (Upd.refl none' w).alloc (.cells #[.int .u8 5, .int .u8 e, .int .u64 sz, .int .u64 0, .int .u64 od, .int .u64 bg, .int .u64 fi, .slice ad lv.length ca] 45)
          have hb := blk_alloc w (.cells #[.int .u8 5, .int .u8 e, .int .u64 sz, .int .u64 0, .int .u64 od, .int .u64 bg, .int .u64 fi, .slice ad lv.length ca] 45)
          have c0 := cell_of_blk hb 0
          have c1 := cell_of_blk hb 1
          have c2 := cell_of_blk hb 2
          have c3 := cell_of_blk hb 3
          have c4 := cell_of_blk hb 4
          have c5 := cell_of_blk hb 5
          have c6 := cell_of_blk hb 6
          have c7 := cell_of_blk hb 7
          simp only [List.size_toArray, List.getElem?_toArray, List.getElem?_cons_zero, List.getElem?_cons_succ] at c0 c1 c2 c3 c4 c5 c6 c7
          have HX := Lib.hid X
          clear X hb h1b h3b hod
          go_enter Tryd.func16, Tryd.ntmps16
          go_wp2_with fail
          go_ret
          exact ⟨by first | (rw [HR.out]; rfl) | rw [HR.out], HX.out⟩
      · have dix : ((ix : Int) == 0) = false := beq_eq_false_iff_ne.2 (by omega)
        have HR : Hid (mayB ⟨5, e, sz, ix, od, bg, fi, lv⟩ = false) := Lib.hid (by simp [mayB, okQ, goesB, askE, askL, mayNum, askN, numQ, List.range, List.range.loop, h1b, h3b, hix])
        have X := (Upd.refl none' w).alloc (.cells #[.int .u8 5, .int .u8 e, .int .u64 sz, .int .u64 ix, .int .u64 od, .int .u64 bg, .int .u64 fi, .slice ad lv.length ca] 45)
        have hb := blk_alloc w (.cells #[.int .u8 5, .int .u8 e, .int .u64 sz, .int .u64 ix, .int .u64 od, .int .u64 bg, .int .u64 fi, .slice ad lv.length ca] 45)
        have c0 := cell_of_blk hb 0
        have c1 := cell_of_blk hb 1
        have c2 := cell_of_blk hb 2
        have c3 := cell_of_blk hb 3
        have c4 := cell_of_blk hb 4
        have c5 := cell_of_blk hb 5
        have c6 := cell_of_blk hb 6
        have c7 := cell_of_blk hb 7
        simp only [List.size_toArray, List.getElem?_toArray, List.getElem?_cons_zero, List.getElem?_cons_succ] at c0 c1 c2 c3 c4 c5 c6 c7
        have HX := Lib.hid X
        clear X hb h1b h3b hix
        go_enter Tryd.func16, Tryd.ntmps16
        go_wp2_with fail
        go_ret
        exact ⟨by first | (rw [HR.out]; rfl) | rw [HR.out], HX.out⟩
set_option maxRecDepth 8000 in
set_option maxHeartbeats 8000000 in
theorem mayL_6 {w : World} (e sz ix od bg fi : Nat) (lv : List ByteArray) (ad : Option Addr) (ca : Nat) : Calls Tryd.prog 16 #[.agg #[.int .u8 6, .int .u8 e, .int .u64 sz, .int .u64 ix, .int .u64 od, .int .u64 bg, .int .u64 fi, .slice ad lv.length ca]] w fun x w' => x = .returned (.bool (mayB ⟨6, e, sz, ix, od, bg, fi, lv⟩)) ∧ Ext w w' := by
  by_cases he : e = 0
  · subst he
    by_cases hsz : sz = 0
    · subst hsz
      by_cases hod : od = 0
      · subst hod
        by_cases hbg : bg = 0
        · subst hbg
          by_cases hfi : fi = 0
          · subst hfi
            by_cases hl : lv.length = 0
            · obtain rfl : lv = [] := List.length_eq_zero_iff.1 hl
              simp only [List.length_nil]
              clear hl
              have HR : Hid (mayB ⟨6, 0, 0, ix, 0, 0, 0, []⟩ = true) := Lib.hid (by simp [mayB, okQ, goesB, askE, askL, mayNum, askN, numQ, List.range, List.range.loop])
              have X := (Upd.refl none' w).alloc (.cells #[.int .u8 6, .int .u8 0, .int .u64 0, .int .u64 ix, .int .u64 0, .int .u64 0, .int .u64 0, .slice ad 0 ca] 45)
              have hb := blk_alloc w (.cells #[.int .u8 6, .int .u8 0, .int .u64 0, .int .u64 ix, .int .u64 0, .int .u64 0, .int .u64 0, .slice ad 0 ca] 45)
              have c0 := cell_of_blk hb 0
              have c1 := cell_of_blk hb 1
              have c2 := cell_of_blk hb 2
              have c3 := cell_of_blk hb 3
              have c4 := cell_of_blk hb 4
              have c5 := cell_of_blk hb 5
              have c6 := cell_of_blk hb 6
              have c7 := cell_of_blk hb 7
              simp only [List.size_toArray, List.getElem?_toArray, List.getElem?_cons_zero, List.getElem?_cons_succ] at c0 c1 c2 c3 c4 c5 c6 c7
              have HX := Lib.hid X
              clear X hb
              go_enter Tryd.func16, Tryd.ntmps16
              go_wp2_with fail
              go_ret
              exact ⟨by first | (rw [HR.out]; rfl) | rw [HR.out], HX.out⟩
            · have dl : ((lv.length : Int) == 0) = false := beq_eq_false_iff_ne.2 (by omega)
              have hl2 : lv ≠ [] := fun h => hl (by rw [h]; rfl)
              clear hl
              have HR : Hid (mayB ⟨6, 0, 0, ix, 0, 0, 0, lv⟩ = false) := Lib.hid (by simp [mayB, okQ, goesB, askE, askL, mayNum, askN, numQ, List.range, List.range.loop, hl2])
              have X := (Upd.refl none' w).alloc (.cells #[.int .u8 6, .int .u8 0, .int .u64 0, .int .u64 ix, .int .u64 0, .int .u64 0, .int .u64 0, .slice ad lv.length ca] 45)
              have hb := blk_alloc w (.cells #[.int .u8 6, .int .u8 0, .int .u64 0, .int .u64 ix, .int .u64 0, .int .u64 0, .int .u64 0, .slice ad lv.length ca] 45)
              have c0 := cell_of_blk hb 0
              have c1 := cell_of_blk hb 1
              have c2 := cell_of_blk hb 2
              have c3 := cell_of_blk hb 3
              have c4 := cell_of_blk hb 4
              have c5 := cell_of_blk hb 5
              have c6 := cell_of_blk hb 6
              have c7 := cell_of_blk hb 7
              simp only [List.size_toArray, List.getElem?_toArray, List.getElem?_cons_zero, List.getElem?_cons_succ] at c0 c1 c2 c3 c4 c5 c6 c7
              have HX := Lib.hid X
              clear X hb hl2
              go_enter Tryd.func16, Tryd.ntmps16
              go_wp2_with fail
              go_ret
              exact ⟨by first | (rw [HR.out]; rfl) | rw [HR.out], HX.out⟩
          · have dfi : ((fi : Int) == 0) = false := beq_eq_false_iff_ne.2 (by omega)
            have HR : Hid (mayB ⟨6, 0, 0, ix, 0, 0, fi, lv⟩ = false) := Lib.hid (by simp [mayB, okQ, goesB, askE, askL, mayNum, askN, numQ, List.range, List.range.loop, hfi])
            have X := (Upd.refl none' w).alloc (.cells #[.int .u8 6, .int .u8 0, .int .u64 0, .int .u64 ix, .int .u64 0, .int .u64 0, .int .u64 fi, .slice ad lv.length ca] 45)
            have hb := blk_alloc w (.cells #[.int .u8 6, .int .u8 0, .int .u64 0, .int .u64 ix, .int .u64 0, .int .u64 0, .int .u64 fi, .slice ad lv.length ca] 45)
            have c0 := cell_of_blk hb 0
            have c1 := cell_of_blk hb 1
            have c2 := cell_of_blk hb 2
            have c3 := cell_of_blk hb 3
            have c4 := cell_of_blk hb 4
            have c5 := cell_of_blk hb 5
            have c6 := cell_of_blk hb 6
            have c7 := cell_of_blk hb 7
            simp only [List.size_toArray, List.getElem?_toArray, List.getElem?_cons_zero, List.getElem?_cons_succ] at c0 c1 c2 c3 c4 c5 c6 c7
            have HX := Lib.hid X
            clear X hb hfi
            go_enter Tryd.func16, Tryd.ntmps16
            go_wp2_with fail
            go_ret
            exact ⟨by first | (rw [HR.out]; rfl) | rw [HR.out], HX.out⟩
        · have dbg : ((bg : Int) == 0) = false := beq_eq_false_iff_ne.2 (by omega)
          have HR : Hid (mayB ⟨6, 0, 0, ix, 0, bg, fi, lv⟩ = false) := Lib.hid (by simp [mayB, okQ, goesB, askE, askL, mayNum, askN, numQ, List.range, List.range.loop, hbg])
          have X := (Upd.refl none' w).alloc (.cells #[.int .u8 6, .int .u8 0, .int .u64 0, .int .u64 ix, .int .u64 0, .int .u64 bg, .int .u64 fi, .slice ad lv.length ca] 45)
          have hb := blk_alloc w (.cells #[.int .u8 6, .int .u8 0, .int .u64 0, .int .u64 ix, .int .u64 0, .int .u64 bg, .int .u64 fi, .slice ad lv.length ca] 45)
          have c0 := cell_of_blk hb 0
          have c1 := cell_of_blk hb 1
          have c2 := cell_of_blk hb 2
          have c3 := cell_of_blk hb 3
          have c4 := cell_of_blk hb 4
          have c5 := cell_of_blk hb 5
          have c6 := cell_of_blk hb 6
          have c7 := cell_of_blk hb 7
          simp only [List.size_toArray, List.getElem?_toArray, List.getElem?_cons_zero, List.getElem?_cons_succ] at c0 c1 c2 c3 c4 c5 c6 c7
          have HX := Lib.hid X
          clear X hb hbg
          go_enter Tryd.func16, Tryd.ntmps16
          go_wp2_with fail
          go_ret
          exact ⟨by first | (rw [HR.out]; rfl) | rw [HR.out], HX.out⟩
      · have dod : ((od : Int) == 0) = false := beq_eq_false_iff_ne.2 (by omega)
        have HR : Hid (mayB ⟨6, 0, 0, ix, od, bg, fi, lv⟩ = false) := Lib.hid (by simp [mayB, okQ, goesB, askE, askL, mayNum, askN, numQ, List.range, List.range.loop, hod])
        have X := (Upd.refl none' w).alloc (.cells #[.int .u8 6, .int .u8 0, .int .u64 0, .int .u64 ix, .int .u64 od, .int .u64 bg, .int .u64 fi, .slice ad lv.length ca] 45)
        have hb := blk_alloc w (.cells #[.int .u8 6, .int .u8 0, .int .u64 0, .int .u64 ix, .int .u64 od, .int .u64 bg, .int .u64 fi, .slice ad lv.length ca] 45)
        have c0 := cell_of_blk hb 0
        have c1 := cell_of_blk hb 1
        have c2 := cell_of_blk hb 2
        have c3 := cell_of_blk hb 3
        have c4 := cell_of_blk hb 4
        have c5 := cell_of_blk hb 5
        have c6 := cell_of_blk hb 6
        have c7 := cell_of_blk hb 7
        simp only [List.size_toArray, List.getElem?_toArray, List.getElem?_cons_zero, List.getElem?_cons_succ] at c0 c1 c2 c3 c4 c5 c6 c7
        have HX := Lib.hid X
        clear X hb hod
        go_enter Tryd.func16, Tryd.ntmps16
        go_wp2_with fail
        go_ret
        exact ⟨by first | (rw [HR.out]; rfl) | rw [HR.out], HX.out⟩
    · have dsz : ((sz : Int) == 0) = false := beq_eq_false_iff_ne.2 (by omega)
      have HR : Hid (mayB ⟨6, 0, sz, ix, od, bg, fi, lv⟩ = false) := Lib.hid (by simp [mayB, okQ, goesB, askE, askL, mayNum, askN, numQ, List.range, List.range.loop, hsz])
      have X := (Upd.refl none' w).alloc (.cells #[.int .u8 6, .int .u8 0, .int .u64 sz, .int .u64 ix, .int .u64 od, .int .u64 bg, .int .u64 fi, .slice ad lv.length ca] 45)
      have hb := blk_alloc w (.cells #[.int .u8 6, .int .u8 0, .int .u64 sz, .int .u64 ix, .int .u64 od, .int .u64 bg, .int .u64 fi, .slice ad lv.length ca] 45)
      have c0 := cell_of_blk hb 0
      have c1 := cell_of_blk hb 1
      have c2 := cell_of_blk hb 2
      have c3 := cell_of_blk hb 3
      have c4 := cell_of_blk hb 4
      have c5 := cell_of_blk hb 5
      have c6 := cell_of_blk hb 6
      have c7 := cell_of_blk hb 7
      simp only [List.size_toArray, List.getElem?_toArray, List.getElem?_cons_zero, List.getElem?_cons_succ] at c0 c1 c2 c3 c4 c5 c6 c7
      have HX := Lib.hid X
      clear X hb hsz
      go_enter Tryd.func16, Tryd.ntmps16
      go_wp2_with fail
      go_ret
      exact ⟨by first | (rw [HR.out]; rfl) | rw [HR.out], HX.out⟩
  · have de : ((e : Int) == 0) = false := beq_eq_false_iff_ne.2 (by omega)
    have HR : Hid (mayB ⟨6, e, sz, ix, od, bg, fi, lv⟩ = false) := Lib.hid (by simp [mayB, okQ, goesB, askE, askL, mayNum, askN, numQ, List.range, List.range.loop, he])
    have X := (Upd.refl none' w).alloc (.cells #[.int .u8 6, .int .u8 e, .int .u64 sz, .int .u64 ix, .int .u64 od, .int .u64 bg, .int .u64 fi, .slice ad lv.length ca] 45)
    have hb := blk_alloc w (.cells #[.int .u8 6, .int .u8 e, .int .u64 sz, .int .u64 ix, .int .u64 od, .int .u64 bg, .int .u64 fi, .slice ad lv.length ca] 45)
    have c0 := cell_of_blk hb 0
    have c1 := cell_of_blk hb 1
    have c2 := cell_of_blk hb 2
    have c3 := cell_of_blk hb 3
    have c4 := cell_of_blk hb 4
    have c5 := cell_of_blk hb 5
    have c6 := cell_of_blk hb 6
    have c7 := cell_of_blk hb 7
    simp only [List.size_toArray, List.getElem?_toArray, List.getElem?_cons_zero, List.getElem?_cons_succ] at c0 c1 c2 c3 c4 c5 c6 c7
    have HX := Lib.hid X
    clear X hb he
    go_enter Tryd.func16, Tryd.ntmps16
    go_wp2_with fail
    go_ret
    exact ⟨by first | (rw [HR.out]; rfl) | rw [HR.out], HX.out⟩
set_option maxRecDepth 8000 in
set_option maxHeartbeats 8000000 in
theorem mayL_7 {w : World} (e sz ix od bg fi : Nat) (lv : List ByteArray) (ad : Option Addr) (ca : Nat) : Calls Tryd.prog 16 #[.agg #[.int .u8 7, .int .u8 e, .int .u64 sz, .int .u64 ix, .int .u64 od, .int .u64 bg, .int .u64 fi, .slice ad lv.length ca]] w fun x w' => x = .returned (.bool (mayB ⟨7, e, sz, ix, od, bg, fi, lv⟩)) ∧ Ext w w' := by
  by_cases he : e = 0
  · subst he
    by_cases hsz : sz = 0
    · subst hsz
      by_cases hix : ix = 0
      · subst hix
        by_cases hod : od = 0
        · subst hod
          by_cases hbg : bg = 0
          · subst hbg
            by_cases hfi : fi = 0
            · subst hfi
              have HR : Hid (mayB ⟨7, 0, 0, 0, 0, 0, 0, lv⟩ = true) := Lib.hid (by simp [mayB, okQ, goesB, askE, askL, mayNum, askN, numQ, List.range, List.range.loop])
              have X := (Upd.refl none' w).alloc (.cells #[.int .u8 7, .int .u8 0, .int .u64 0, .int .u64 0, .int .u64 0, .int .u64 0, .int .u64 0, .slice ad lv.length ca] 45)
              have hb := blk_alloc w (.cells #[.int .u8 7, .int .u8 0, .int .u64 0, .int .u64 0, .int .u64 0, .int .u64 0, .int .u64 0, .slice ad lv.length ca] 45)
              have c0 := cell_of_blk hb 0
              have c1 := cell_of_blk hb 1
              have c2 := cell_of_blk hb 2
              have c3 := cell_of_blk hb 3
              have c4 := cell_of_blk hb 4
              have c5 := cell_of_blk hb 5
              have c6 := cell_of_blk hb 6
              have c7 := cell_of_blk hb 7
              simp only [List.size_toArray, List.getElem?_toArray, List.getElem?_cons_zero, List.getElem?_cons_succ] at c0 c1 c2 c3 c4 c5 c6 c7
              have HX := Lib.hid X
              clear X hb
              go_enter Tryd.func16, Tryd.ntmps16
              go_wp2_with fail
              go_ret
              exact ⟨by first | (rw [HR.out]; rfl) | rw [HR.out], HX.out⟩
            · have dfi : ((fi : Int) == 0) = false := beq_eq_false_iff_ne.2 (by omega)
              have HR : Hid (mayB ⟨7, 0, 0, 0, 0, 0, fi, lv⟩ = false) := Lib.hid (by simp [mayB, okQ, goesB, askE, askL, mayNum, askN, numQ, List.range, List.range.loop, hfi])
              have X := (Upd.refl none' w).alloc (.cells #[.int .u8 7, .int .u8 0, .int .u64 0, .int .u64 0, .int .u64 0, .int .u64 0, .int .u64 fi, .slice ad lv.length ca] 45)
              have hb := blk_alloc w (.cells #[.int .u8 7, .int .u8 0, .int .u64 0, .int .u64 0, .int .u64 0, .int .u64 0, .int .u64 fi, .slice ad lv.length ca] 45)
              have c0 := cell_of_blk hb 0
              have c1 := cell_of_blk hb 1
              have c2 := cell_of_blk hb 2
              have c3 := cell_of_blk hb 3
              have c4 := cell_of_blk hb 4
              have c5 := cell_of_blk hb 5
              have c6 := cell_of_blk hb 6
              have c7 := cell_of_blk hb 7
              simp only [List.size_toArray, List.getElem?_toArray, List.getElem?_cons_zero, List.getElem?_cons_succ] at c0 c1 c2 c3 c4 c5 c6 c7
              have HX := Lib.hid X
              clear X hb hfi
              go_enter Tryd.func16, Tryd.ntmps16
              go_wp2_with fail
              go_ret
              exact ⟨by first | (rw [HR.out]; rfl) | rw [HR.out], HX.out⟩
          · have dbg : ((bg : Int) == 0) = false := beq_eq_false_iff_ne.2 (by omega)
            have HR : Hid (mayB ⟨7, 0, 0, 0, 0, bg, fi, lv⟩ = false) := Lib.hid (by simp [mayB, okQ, goesB, askE, askL, mayNum, askN, numQ, List.range, List.range.loop, hbg])
            have X := (Upd.refl none' w).alloc (.cells #[.int .u8 7, .int .u8 0, .int .u64 0, .int .u64 0, .int .u64 0, .int .u64 bg, .int .u64 fi, .slice ad lv.length ca] 45)
            have hb := blk_alloc w (.cells #[.int .u8 7, .int .u8 0, .int .u64 0, .int .u64 0, .int .u64 0, .int .u64 bg, .int .u64 fi, .slice ad lv.length ca] 45)
            have c0 := cell_of_blk hb 0
            have c1 := cell_of_blk hb 1
            have c2 := cell_of_blk hb 2
            have c3 := cell_of_blk hb 3
            have c4 := cell_of_blk hb 4
            have c5 := cell_of_blk hb 5
            have c6 := cell_of_blk hb 6
            have c7 := cell_of_blk hb 7
            simp only [List.size_toArray, List.getElem?_toArray, List.getElem?_cons_zero, List.getElem?_cons_succ] at c0 c1 c2 c3 c4 c5 c6 c7
            have HX := Lib.hid X
            clear X hb hbg
            go_enter Tryd.func16, Tryd.ntmps16
            go_wp2_with fail
            go_ret
            exact ⟨by first | (rw [HR.out]; rfl) | rw [HR.out], HX.out⟩
        · have dod : ((od : Int) == 0) = false := beq_eq_false_iff_ne.2 (by omega)
          have HR : Hid (mayB ⟨7, 0, 0, 0, od, bg, fi, lv⟩ = false) := Lib.hid (by simp [mayB, okQ, goesB, askE, askL, mayNum, askN, numQ, List.range, List.range.loop, hod])
          have X := (Upd.refl none' w).alloc (.cells #[.int .u8 7, .int .u8 0, .int .u64 0, .int .u64 0, .int .u64 od, .int .u64 bg, .int .u64 fi, .slice ad lv.length ca] 45)
          have hb := blk_alloc w (.cells #[.int .u8 7, .int .u8 0, .int .u64 0, .int .u64 0, .int .u64 od, .int .u64 bg, .int .u64 fi, .slice ad lv.length ca] 45)
          have c0 := cell_of_blk hb 0
          have c1 := cell_of_blk hb 1
          have c2 := cell_of_blk hb 2
          have c3 := cell_of_blk hb 3
          have c4 := cell_of_blk hb 4
          have c5 := cell_of_blk hb 5
          have c6 := cell_of_blk hb 6
          have c7 := cell_of_blk hb 7
          simp only [List.size_toArray, List.getElem?_toArray, List.getElem?_cons_zero, List.getElem?_cons_succ] at c0 c1 c2 c3 c4 c5 c6 c7
          have HX := Lib.hid X
          clear X hb hod
          go_enter Tryd.func16, Tryd.ntmps16
          go_wp2_with fail
          go_ret
          exact ⟨by first | (rw [HR.out]; rfl) | rw [HR.out], HX.out⟩
      · have dix : ((ix : Int) == 0) = false := beq_eq_false_iff_ne.2 (by omega)
        have HR : Hid (mayB ⟨7, 0, 0, ix, od, bg, fi, lv⟩ = false) := Lib.hid (by simp [mayB, okQ, goesB, askE, askL, mayNum, askN, numQ, List.range, List.range.loop, hix])
        have X := (Upd.refl none' w).alloc (.cells #[.int .u8 7, .int .u8 0, .int .u64 0, .int .u64 ix, .int .u64 od, .int .u64 bg, .int .u64 fi, .slice ad lv.length ca] 45)
        have hb := blk_alloc w (.cells #[.int .u8 7, .int .u8 0, .int .u64 0, .int .u64 ix, .int .u64 od, .int .u64 bg, .int .u64 fi, .slice ad lv.length ca] 45)
        have c0 := cell_of_blk hb 0
        have c1 := cell_of_blk hb 1
        have c2 := cell_of_blk hb 2
        have c3 := cell_of_blk hb 3
        have c4 := cell_of_blk hb 4
        have c5 := cell_of_blk hb 5
        have c6 := cell_of_blk hb 6
        have c7 := cell_of_blk hb 7
        simp only [List.size_toArray, List.getElem?_toArray, List.getElem?_cons_zero, List.getElem?_cons_succ] at c0 c1 c2 c3 c4 c5 c6 c7
        have HX := Lib.hid X
        clear X hb hix
        go_enter Tryd.func16, Tryd.ntmps16
        go_wp2_with fail
        go_ret
        exact ⟨by first | (rw [HR.out]; rfl) | rw [HR.out], HX.out⟩
    · have dsz : ((sz : Int) == 0) = false := beq_eq_false_iff_ne.2 (by omega)
      have HR : Hid (mayB ⟨7, 0, sz, ix, od, bg, fi, lv⟩ = false) := Lib.hid (by simp [mayB, okQ, goesB, askE, askL, mayNum, askN, numQ, List.range, List.range.loop, hsz])
      have X := (Upd.refl none' w).alloc (.cells #[.int .u8 7, .int .u8 0, .int .u64 sz, .int .u64 ix, .int .u64 od, .int .u64 bg, .int .u64 fi, .slice ad lv.length ca] 45)
      have hb := blk_alloc w (.cells #[.int .u8 7, .int .u8 0, .int .u64 sz, .int .u64 ix, .int .u64 od, .int .u64 bg, .int .u64 fi, .slice ad lv.length ca] 45)
      have c0 := cell_of_blk hb 0
      have c1 := cell_of_blk hb 1
      have c2 := cell_of_blk hb 2
      have c3 := cell_of_blk hb 3
      have c4 := cell_of_blk hb 4
      have c5 := cell_of_blk hb 5
      have c6 := cell_of_blk hb 6
      have c7 := cell_of_blk hb 7
      simp only [List.size_toArray, List.getElem?_toArray, List.getElem?_cons_zero, List.getElem?_cons_succ] at c0 c1 c2 c3 c4 c5 c6 c7
      have HX := Lib.hid X
      clear X hb hsz
      go_enter Tryd.func16, Tryd.ntmps16
      go_wp2_with fail
      go_ret
      exact ⟨by first | (rw [HR.out]; rfl) | rw [HR.out], HX.out⟩
  · have de : ((e : Int) == 0) = false := beq_eq_false_iff_ne.2 (by omega)
    have HR : Hid (mayB ⟨7, e, sz, ix, od, bg, fi, lv⟩ = false) := Lib.hid (by simp [mayB, okQ, goesB, askE, askL, mayNum, askN, numQ, List.range, List.range.loop, he])
    have X := (Upd.refl none' w).alloc (.cells #[.int .u8 7, .int .u8 e, .int .u64 sz, .int .u64 ix, .int .u64 od, .int .u64 bg, .int .u64 fi, .slice ad lv.length ca] 45)
    have hb := blk_alloc w (.cells #[.int .u8 7, .int .u8 e, .int .u64 sz, .int .u64 ix, .int .u64 od, .int .u64 bg, .int .u64 fi, .slice ad lv.length ca] 45)
    have c0 := cell_of_blk hb 0
    have c1 := cell_of_blk hb 1
    have c2 := cell_of_blk hb 2
    have c3 := cell_of_blk hb 3
    have c4 := cell_of_blk hb 4
    have c5 := cell_of_blk hb 5
    have c6 := cell_of_blk hb 6
    have c7 := cell_of_blk hb 7
    simp only [List.size_toArray, List.getElem?_toArray, List.getElem?_cons_zero, List.getElem?_cons_succ] at c0 c1 c2 c3 c4 c5 c6 c7
    have HX := Lib.hid X
    clear X hb he
    go_enter Tryd.func16, Tryd.ntmps16
    go_wp2_with fail
    go_ret
    exact ⟨by first | (rw [HR.out]; rfl) | rw [HR.out], HX.out⟩
set_option maxRecDepth 8000 in
set_option maxHeartbeats 8000000 in
theorem mayL_no {w : World} (q : QryD) (hk : q.kind = 0 ∨ 7 < q.kind) (ad : Option Addr) (ca : Nat) : Calls Tryd.prog 16 #[.agg (qCells q (.slice ad q.leaves.length ca)).toArray] w fun x w' => x = .returned (.bool (mayB q)) ∧ Ext w w' := by
  obtain ⟨k, e, sz, ix, od, bg, fi, lv⟩ := q
  simp only at hk
  have HR : Hid (mayB ⟨k, e, sz, ix, od, bg, fi, lv⟩ = false) := Lib.hid (by
    have : okQ k = false := by unfold okQ; rcases hk with rfl | hk <;> simp <;> omega
    unfold mayB; rw [this]; rfl)
  have X := (Upd.refl none' w).alloc (.cells (qCells ⟨k, e, sz, ix, od, bg, fi, lv⟩ (.slice ad lv.length ca)).toArray 45)
  have hb := blk_alloc w (.cells (qCells ⟨k, e, sz, ix, od, bg, fi, lv⟩ (.slice ad lv.length ca)).toArray 45)
  have c0 := cell_of_blk hb 0
  have c1 := cell_of_blk hb 1
  simp only [qCells] at X hb c0 c1 ⊢
  simp only [List.size_toArray, List.getElem?_toArray, List.getElem?_cons_zero, List.getElem?_cons_succ] at c0 c1
  have HX := Lib.hid X
  clear X hb
  rcases hk with rfl | hk
  · go_enter Tryd.func16, Tryd.ntmps16
    go_wp2_with fail
    go_ret
    exact ⟨by first | (rw [HR.out]; rfl) | rw [HR.out], HX.out⟩
  · have d1 : ¬ (k : Int) < 1 := by omega
    have d7 : (7 : Int) < k := by omega
    have e1 : ((k : Int) == 1) = false := beq_eq_false_iff_ne.2 (by omega)
    have e6 : ((k : Int) == 6) = false := beq_eq_false_iff_ne.2 (by omega)
    have e7 : ((k : Int) == 7) = false := beq_eq_false_iff_ne.2 (by omega)
    clear hk
    go_enter Tryd.func16, Tryd.ntmps16
    go_wp2_with fail
    go_ret
    exact ⟨by first | (rw [HR.out]; rfl) | rw [HR.out], HX.out⟩
theorem mayL_any {w : World} (q : QryD) (ad : Option Addr) (ca : Nat) : Calls Tryd.prog 16 #[.agg (qCells q (.slice ad q.leaves.length ca)).toArray] w fun x w' => x = .returned (.bool (mayB q)) ∧ Ext w w' := by
  by_cases hk : q.kind = 0 ∨ 7 < q.kind
  · exact mayL_no q hk ad ca
  · obtain ⟨k, e, sz, ix, od, bg, fi, lv⟩ := q
    simp only at hk
    rcases (show k = 1 ∨ k = 2 ∨ k = 3 ∨ k = 4 ∨ k = 5 ∨ k = 6 ∨ k = 7 by omega) with rfl | rfl | rfl | rfl | rfl | rfl | rfl
    · exact mayL_1 e sz ix od bg fi lv ad ca
    · exact mayL_2 e sz ix od bg fi lv ad ca
    · exact mayL_3 e sz ix od bg fi lv ad ca
    · exact mayL_4 e sz ix od bg fi lv ad ca
    · exact mayL_5 e sz ix od bg fi lv ad ca
    · exact mayL_6 e sz ix od bg fi lv ad ca
    · exact mayL_7 e sz ix od bg fi lv ad ca
end Go.Proofs.YtkdhjighomnooaaDoor
