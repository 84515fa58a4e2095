/- cartularyref27.EncodeAnswer, of any answer. -/
import Derived.Test.YtkdhjighomnooaaDoorRefA
namespace Go.Proofs.YtkdhjighomnooaaDoor
open Go.RowKit Go.Lib

set_option maxRecDepth 8000 in
set_option maxHeartbeats 4000000 in
theorem refA_bad {w : World} (x : AnsD) (hx : x.Ok) (ad : Option Addr) (ca : Nat) (hb : x.bad) :
    Calls Tryd.prog 10 #[.agg (ansCells x (.slice ad x.hs.length ca))] w (RefPost w [] (some (2, none))) := by
  obtain ⟨code, size, hs, leaf⟩ := x
  obtain ⟨h1, h2, h3, h4, h5⟩ := hx
  simp only [ansCells, AnsD.bad] at hb h1 h2 h3 h4 h5 ⊢
  have X := ((Upd.refl none' w).alloc (.cells #[.int .u8 code, .int .u64 size, .slice ad hs.length ca, .string leaf] 26)).alloc (.cells #[.int .i64 0, .int .i64 0] 34)
  have hbl := blk_alloc_lt (blk_alloc w (.cells #[.int .u8 code, .int .u64 size, .slice ad hs.length ca, .string leaf] 26)) (.cells #[.int .i64 0, .int .i64 0] 34)
  have hz := blk_alloc (w.alloc (.cells #[.int .u8 code, .int .u64 size, .slice ad hs.length ca, .string leaf] 26)) (.cells #[.int .i64 0, .int .i64 0] 34)
  rw [World.size_alloc] at hz
  have CP : ∀ w1 : World, Calls Tryd.prog 31 #[.int .i64 2] w1 fun e w' => e = .returned (.agg #[.int .i64 2, .int .i64 (-1)]) ∧ Ext w1 w' := fun w1 => by
    have h := plain_any 2 w1
    rw [if_neg (by decide)] at h
    exact h
  have c0 := cell_of_blk hbl 0
  have c1 := cell_of_blk hbl 1
  have c2 := cell_of_blk hbl 2
  have c3 := cell_of_blk hbl 3
  simp only [List.size_toArray, List.getElem?_toArray, List.getElem?_cons_zero, List.getElem?_cons_succ] at c0 c1 c2 c3
  have HX := Lib.hid X
  have HZ := Lib.hid hz
  have hd : (5 : Int) < code ∨ (¬ (5 : Int) < code ∧ ((code : Int) != 0) = true ∧ (((size : Int) != 0) = true ∨ (((size : Int) != 0) = false ∧ (((0 : Int) < hs.length ∧ ¬ hs = []) ∨ (¬ (0 : Int) < hs.length ∧ hs = [] ∧ leaf.toList.isEmpty = false))))) := by
    rcases hb with hb | ⟨hn, hr⟩
    · exact .inl (by omega)
    · by_cases b5 : 5 < code
      · exact .inl (by omega)
      · refine .inr ⟨by omega, by simp; omega, ?_⟩
        by_cases hs0 : size = 0
        · refine .inr ⟨by simp [hs0], ?_⟩
          have hr2 := hr.resolve_left (fun h => h hs0)
          by_cases bh : 0 < hs.length
          · exact .inl ⟨by omega, fun e => by rw [e] at bh; simp at bh⟩
          · exact .inr ⟨by omega, List.length_eq_zero_iff.1 (by omega), (empty_no leaf).2 (hr2.resolve_left bh)⟩
        · exact .inl (by simp; omega)
  clear X hbl hz h3 hb
  go_enter Tryd.func10, Tryd.ntmps10
  go_upto_region 1 with fail
  generalize (w.alloc (.cells #[.int .u8 code, .int .u64 size, .slice ad hs.length ca, .string leaf] 26)).alloc (.cells #[.int .i64 0, .int .i64 0] 34) = W0 at *
  rcases hd with d5 | ⟨d5, dc, ds | ⟨ds, ⟨dh, dne⟩ | ⟨dh, dnil, dl⟩⟩⟩
  all_goals
    go_wp2_with fail
    refine (CP _).mono ?_
    rintro e w1 ⟨rfl, u⟩
    have HZ1 := Lib.hid (Ext.blk u HZ.out)
    have hF := Lib.hid (blk_setRow HZ1.out #[.int .i64 2, .int .i64 (-1)])
    have HUF := Lib.hid ((HX.out.trans u).setRow (g := w.heap.size + 1) (.inl (by omega)) #[.int .i64 2, .int .i64 (-1)])
    clear u CP
    go_wp2_with (refine store_whole rfl 34 _ _ rfl (w.heap.size + 1) rfl [.int .i64 2, .int .i64 (-1)] rfl fault_size2 [.int .i64 0, .int .i64 0] 34 HZ1.out rfl (fault_one _ _) ?_)
    exact bodyPost_ret (v := .tuple #[.string ⟨#[]⟩, .agg #[.int .i64 2, .int .i64 (-1)]]) (resR _ _ (w.heap.size + 1) _ _ rfl rfl hF.out rfl) rfl ⟨rfl, HUF.out⟩
set_option maxRecDepth 8000 in
set_option maxHeartbeats 4000000 in
theorem refA_code {w : World} (x : AnsD) (hx : x.Ok) (ad : Option Addr) (ca : Nat) (hb : ¬ x.bad) (hc : x.code ≠ 0) :
    Calls Tryd.prog 10 #[.agg (ansCells x (.slice ad x.hs.length ca))] w (RefPost w [x.code.toUInt8] none) := by
  obtain ⟨code, size, hs, leaf⟩ := x
  obtain ⟨h1, h2, h3, h4, h5⟩ := hx
  simp only [ansCells, AnsD.bad] at hb hc h1 h2 h3 h4 h5 ⊢
  have b5 : ¬ 5 < code := fun h => hb (.inl h)
  have d5 : ¬ (5 : Int) < code := by omega
  have dc : ((code : Int) != 0) = true := by simp; omega
  obtain rfl : size = 0 := Decidable.byContradiction fun h => hb (.inr ⟨hc, .inl h⟩)
  obtain rfl : hs = [] := by
    cases hs with
    | nil => rfl
    | cons x t => exact absurd (.inr ⟨hc, .inr (.inl (by simp))⟩) hb
  obtain rfl : leaf = ⟨#[]⟩ := Classical.byContradiction fun h => hb (.inr ⟨hc, .inr (.inr h)⟩)
  have X := ((Upd.refl none' w).alloc (.cells #[.int .u8 code, .int .u64 0, .slice ad 0 ca, .string ⟨#[]⟩] 26)).alloc (.cells #[.int .i64 0, .int .i64 0] 34)
  have hbl := blk_alloc_lt (blk_alloc w (.cells #[.int .u8 code, .int .u64 0, .slice ad 0 ca, .string ⟨#[]⟩] 26)) (.cells #[.int .i64 0, .int .i64 0] 34)
  have hz := blk_alloc (w.alloc (.cells #[.int .u8 code, .int .u64 0, .slice ad 0 ca, .string ⟨#[]⟩] 26)) (.cells #[.int .i64 0, .int .i64 0] 34)
  rw [World.size_alloc] at hz
  have c0 := cell_of_blk hbl 0
  have c1 := cell_of_blk hbl 1
  have c2 := cell_of_blk hbl 2
  have c3 := cell_of_blk hbl 3
  simp only [List.size_toArray, List.getElem?_toArray, List.getElem?_cons_zero, List.getElem?_cons_succ] at c0 c1 c2 c3
  have hu8 : u8v code.toUInt8 = .int .u8 (code : Int) := by unfold u8v; rw [toU8 _ h1]
  have hst := run_str_own (((w.alloc (.cells #[.int .u8 code, .int .u64 0, .slice ad 0 ca, .string ⟨#[]⟩] 26)).alloc (.cells #[.int .i64 0, .int .i64 0] 34)).alloc (.cells #[.int .u8 code] 5)) (B := w.heap.size) (xs := [code.toUInt8]) (by
    have := own_fresh X (Nat.le_refl w.heap.size) (.int .u8 (code : Int))
    simp only [List.length_cons, List.length_nil, List.map_cons, List.map_nil, hu8]
    exact this)
  simp only [World.size_alloc, List.length_cons, List.length_nil] at hst
  have HX := Lib.hid (X.alloc (.cells #[.int .u8 code] 5))
  have HZ := Lib.hid (blk_alloc_lt hz (.cells #[.int .u8 code] 5))
  have hF := Lib.hid (blk_setRow HZ.out #[.int .i64 0, .int .i64 0])
  have HUF := Lib.hid (HX.out.setRow (g := w.heap.size + 1) (.inl (by omega)) #[.int .i64 0, .int .i64 0])
  clear X hbl hz h3 hb hc b5 hu8
  go_enter Tryd.func10, Tryd.ntmps10
  go_wp2_with (refine store_whole rfl 34 _ _ rfl (w.heap.size + 1) rfl [.int .i64 0, .int .i64 0] rfl fault_size2 [.int .i64 0, .int .i64 0] 34 HZ.out rfl (fault_one _ _) ?_)
  exact bodyPost_ret (v := .tuple #[.string (str [code.toUInt8]), .agg #[.int .i64 0, .int .i64 0]]) (resR _ _ (w.heap.size + 1) _ _ rfl rfl hF.out rfl) rfl ⟨rfl, HUF.out⟩
/-- The document's EncodeAnswer, of any answer. -/
theorem refA_any {w : World} (x : AnsD) (hx : x.Ok) (ad : Option Addr) (ca : Nat) (h : HashesAt w ad x.hs) :
    Calls Tryd.prog 10 #[.agg (ansCells x (.slice ad x.hs.length ca))] w (RefPost w (ansB x) (ansE x)) := by
  by_cases hb : x.bad
  · obtain ⟨e1, e2⟩ := once_bad x hb
    rw [e1, e2]; exact refA_bad x hx ad ca hb
  · by_cases hc : x.code = 0
    · have hc0 : ¬ x.code ≠ 0 := fun h => h hc
      obtain ⟨code, size, hs, leaf⟩ := x
      obtain rfl : code = 0 := hc
      refine refA_zero size hs leaf hx ad ca h _ _ (Lib.hid (fun hl => ?_)) (Lib.hid (fun hl => ?_))
      · by_cases hl2 : 65536 < leaf.size ∨ 1048576 < hs.length
        · exact ⟨by unfold ansB; rw [if_neg hb, if_neg hc0, if_pos hl2], by unfold ansE; rw [if_neg hb, if_neg hc0, if_pos hl2]⟩
        · have hbd : 1048576 < (AnsD.mk 0 size hs leaf).body.length := by
            have h5 := flat_len hs hx.len
            have h6 : 1 ≤ (varB hs.length).length := by unfold varB varN; split <;> simp
            unfold AnsD.body
            simp only [List.length_append, fixB_len]
            have h7 : leaf.data.toList.length = leaf.size := by rw [Array.length_toList]; rfl
            omega
          exact ⟨by unfold ansB; rw [if_neg hb, if_neg hc0, if_neg hl2]; unfold wholeB; rw [if_pos hbd], by unfold ansE; rw [if_neg hb, if_neg hc0, if_neg hl2]; unfold wholeE; rw [if_pos hbd]⟩
      · have hl2 : ¬ (65536 < leaf.size ∨ 1048576 < hs.length) := by omega
        exact ⟨by unfold ansB; rw [if_neg hb, if_neg hc0, if_neg hl2], by unfold ansE; rw [if_neg hb, if_neg hc0, if_neg hl2]⟩
    · have e1 : ansB x = [x.code.toUInt8] := by unfold ansB; rw [if_neg hb, if_pos hc, fixB1 _ hx.code]
      have e2 : ansE x = none := by unfold ansE; rw [if_neg hb, if_pos hc]
      rw [e1, e2]; exact refA_code x hx ad ca hb hc
theorem same_ans (x : AnsD) : sameB (ansE x) (efC (ansE x)) (efA (ansE x)) = true := by
  by_cases hb : x.bad
  · rw [(once_bad x hb).1]; rfl
  · by_cases he : ansE x = none
    · rw [he]; rfl
    · by_cases hc : x.code ≠ 0
      · exact absurd (by unfold ansE; rw [if_neg hb, if_pos hc]) he
      · by_cases hl : 65536 < x.leaf.size ∨ 1048576 < x.hs.length
        · have : ansE x = some (4, none) := by unfold ansE; rw [if_neg hb, if_neg hc, if_pos hl]
          rw [this]; rfl
        · have h2 : ansE x = wholeE x.body := by unfold ansE; rw [if_neg hb, if_neg hc, if_neg hl]
          by_cases hw : 1048576 < x.body.length
          · have : ansE x = some (4, none) := by rw [h2]; exact if_pos hw
            rw [this]; rfl
          · exact absurd (by rw [h2]; exact if_neg hw) he
end Go.Proofs.YtkdhjighomnooaaDoor
