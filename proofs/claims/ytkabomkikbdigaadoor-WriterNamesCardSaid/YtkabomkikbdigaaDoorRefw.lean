/- cartularyref02: the forms (Var, Text, Hash, Fixed) and the errors (Plain, Placed); round: by contracts. -/
import Derived.Test.YtkabomkikbdigaaDoorWriter4
namespace Go.Proofs.YtkabomkikbdigaaDoor
open Go.RowKit Go.Lib

theorem plain_any (c : Int) (w : World) : Calls Tryd.prog 16 #[.int .i64 c] w fun e w' => e = .returned (.agg #[.int .i64 c, .int .i64 (if c = 0 then 0 else -1)]) ∧ Ext w w' := by
  by_cases hc : c = 0
  · subst hc
    go_enter Tryd.func16, Tryd.ntmps16
    go_wp2
    exact bodyPost_ret (v := .agg #[.int .i64 0, .int .i64 0]) (by simp [results, Tryd.results16, go_sem]) rfl ⟨rfl, by repeat (first | exact Upd.refl _ _ | apply Upd.alloc | refine Upd.setCell ?_ (.inl (Nat.le_refl _)) _)⟩
  · have hb : (c == 0) = false := by simpa using hc
    rw [if_neg hc]
    clear hc
    go_enter Tryd.func16, Tryd.ntmps16
    go_wp2
    exact bodyPost_ret (v := .agg #[.int .i64 c, .int .i64 (-1)]) (by simp [results, Tryd.results16, go_sem]) rfl ⟨rfl, by repeat (first | exact Upd.refl _ _ | apply Upd.alloc | refine Upd.setCell ?_ (.inl (Nat.le_refl _)) _)⟩
theorem placed_any (c n : Int) (w : World) : Calls Tryd.prog 55 #[.int .i64 c, .int .i64 n] w fun e w' => e = .returned (.agg #[.int .i64 c, .int .i64 n]) ∧ Ext w w' := by
  go_enter Tryd.func55, Tryd.ntmps55
  go_wp2
  exact bodyPost_ret (v := .agg #[.int .i64 c, .int .i64 n]) (by simp [results, Tryd.results55, go_sem]) rfl ⟨rfl, by repeat (first | exact Upd.refl _ _ | apply Upd.alloc | refine Upd.setCell ?_ (.inl (Nat.le_refl _)) _)⟩
theorem round_any (k : Int) (w : World) (h1 : -9223372036854775808 ≤ k) (h2 : k ≤ 9223372036854775807) : Calls Tryd.prog 14 #[.int .i64 k, .int .i64 4] w fun e w' => e = .returned (.int .i64 (k % 4)) ∧ w = w' := by
  have h0 : k.tmod 4 = if k % 4 = 0 ∨ 0 ≤ k then k % 4 else k % 4 - 4 := by
    rw [Int.tmod_eq_emod]; split <;> split <;> simp_all <;> omega
  go_enter Tryd.func14, Tryd.ntmps14
  go_wp2
  all_goals
    go_ret
    exact ⟨rfl, rfl⟩


set_option maxRecDepth 8000 in
/-- The reference's Var: the same bytes. -/
theorem rvar_any (n : Nat) (hn : n < 18446744073709551616) (w : World) : Calls Tryd.prog 42 #[.int .u64 n] w fun e w' => e = .returned (.string (str (varB n))) ∧ Ext w w' := by
  obtain ⟨i0, hi, hz0, hz1, hz2⟩ := info_parts info_u8
  go_enter Tryd.func42, Tryd.ntmps42
  go_wp2
  go_loopw [0, 3] (fun nv lv wr => ∃ (f m : Nat) (ys : List UInt8) (l : Value), nv = .int .u64 m ∧ l = lv ∧ (1 ≤ f ∧ m < 2 * 128 ^ (f - 1)) ∧ m < 18446744073709551616 ∧ ys.length + f = 10 ∧ varB n = ys ++ varN f m ∧ wr.ownsRow w.heap.size 5 1 l ys.length (ys.map u8v) ∧ Ext w wr) (fun nv _ _ => (intOf nv).toNat)
  case atStart => exact ⟨10, n, [], _, rfl, rfl, ⟨by omega, by simpa using hn⟩, hn, rfl, rfl, World.ownsRow_nil _ _ _ _, Upd.refl _ _⟩
  case round =>
    obtain ⟨f, m, ys, l, rfl, rfl, ⟨hf1, hm1⟩, hm, hf, hv, ho, hu⟩ := hrel
    obtain ⟨f, rfl⟩ : ∃ g, f = g + 1 := ⟨f - 1, by omega⟩
    simp only [Nat.add_sub_cancel] at hm1
    have HO := Lib.hid ho
    have HU := Lib.hid hu
    have hsz := hu.size
    have HF := Lib.hid hf
    have hyl : ys.length ≤ 9 := by omega
    have hlen : ys.length + 1 ≤ maxLen := by unfold maxLen; omega
    clear hf
    by_cases hlt : m ≤ 127
    · have hx : varB n = ys ++ [m.toUInt8] := by rw [hv]; unfold varN; rw [if_pos hlt]
      have HX := Lib.hid hx
      have hm8 : m.toUInt8.toNat = m := by simp; omega
      have HM := Lib.hid hm8
      have HOa := Lib.hid (ownsRow_upd ho ((Upd.refl none' wr).alloc (.cells #[.int .u8 m] 5)) (fun _ _ => id))
      have hBa : w.heap.size ≤ (wr.alloc (.cells #[.int .u8 m] 5)).heap.size := by simp; omega
      have HBa := Lib.hid hBa
      clear ho hu hv hx hm1 hm8 hBa hsz
      go_wp2_with (at_builtin; go_must (refine wpList_app rfl _ _ 28 rfl w.heap.size 5 i0 (.int .u8 0) 1 1 Tryd.underlying28 hi hz0 hz1 hz2 rfl (by decide) l ys.length (ys.map u8v) rfl HOa.out ⟨wr.heap.size, 0, none⟩ 1 1 [.int .u8 m] rfl rfl ?c1 ?c2 hlen ?c4 HBa.out ?_))
      case c1 => intro j u hu; exact cells_at (blk_alloc wr _) j u hu
      case c2 => intro u hu; simp at hu; subst hu; rfl
      case c4 => omega
      intro v' w1 hown' hg _
      have hown2 : w1.ownsRow w.heap.size 5 1 v' (varB n).length ((varB n).map u8v) := by
        rw [HX.out, List.length_append, List.map_append]
        have e1 : [m.toUInt8].map u8v = [.int .u8 (m : Int)] := by simp only [List.map_cons, List.map_nil, u8v, HM.out]
        rw [e1]; exact hown'
      have hs := run_str_own w1 hown2
      have hU1 := (HU.out.alloc (.cells #[.int .u8 m] 5)).grown hg (fun k hk => .inl (HOa.out.lt k hk).1)
      have form := own_form hown2
      have HU1 := Lib.hid hU1
      clear hown' hown2 hg hU1
      rcases form with ⟨rfl, _⟩ | ⟨g, cap, rfl, _⟩
      all_goals
        go_wp2
        go_ret
        exact ⟨rfl, HU1.out⟩
    · obtain ⟨g, rfl⟩ : ∃ g, f = g + 1 := ⟨f - 1, by cases f with
        | zero => simp at hm1; omega
        | succ g => omega⟩
      have hx : varB n = (ys ++ [(m % 128 + 128).toUInt8]) ++ varN (g + 1) (m / 128) := by rw [hv]; conv => lhs; unfold varN; rw [if_neg hlt]
                                                                                           simp
      have hm2 : m / 128 < 2 * 128 ^ g := by rw [Nat.pow_succ] at hm1; omega
      have HX := Lib.hid hx
      have HM := Lib.hid hm2
      have hm8 : (m % 128 + 128).toUInt8.toNat = 128 + m % 128 := by rw [Nat.toUInt8, UInt8.toNat_ofNat']; omega
      have HM8 := Lib.hid hm8
      have HOa := Lib.hid (ownsRow_upd ho ((Upd.refl none' wr).alloc (.cells #[.int .u8 (128 + (m : Int) % 128)] 5)) (fun _ _ => id))
      have hBa : w.heap.size ≤ (wr.alloc (.cells #[.int .u8 (128 + (m : Int) % 128)] 5)).heap.size := by simp; omega
      have HBa := Lib.hid hBa
      clear ho hu hv hx hm1 hm2 hm8 hBa hsz
      go_wp2_with (at_builtin; go_must (refine wpList_app rfl _ _ 28 rfl w.heap.size 5 i0 (.int .u8 0) 1 1 Tryd.underlying28 hi hz0 hz1 hz2 rfl (by decide) l ys.length (ys.map u8v) rfl HOa.out ⟨wr.heap.size, 0, none⟩ 1 1 [.int .u8 (128 + (m : Int) % 128)] rfl rfl ?c1 ?c2 hlen ?c4 HBa.out ?_))
      case c1 => intro j u hu; exact cells_at (blk_alloc wr _) j u hu
      case c2 => intro u hu; simp at hu; subst hu; rfl
      case c4 => omega
      intro v' w1 hown' hg _
      have hown2 : w1.ownsRow w.heap.size 5 1 v' (ys ++ [(m % 128 + 128).toUInt8]).length ((ys ++ [(m % 128 + 128).toUInt8]).map u8v) := by
        rw [List.length_append, List.map_append]
        have e1 : [(m % 128 + 128).toUInt8].map u8v = [.int .u8 (128 + (m : Int) % 128)] := by
          simp only [List.map_cons, List.map_nil, u8v, HM8.out]; congr 2
        rw [e1]; exact hown'
      have hU1 := (HU.out.alloc (.cells #[.int .u8 (128 + (m : Int) % 128)] 5)).grown hg (fun k hk => .inl (HOa.out.lt k hk).1)
      have HO2 := Lib.hid hown2
      have HU1 := Lib.hid hU1
      clear hown' hown2 hg hU1
      go_wp2_with fail
      refine ⟨⟨g + 1, m / 128, _, _, by simp, rfl, ⟨by omega, HM.out⟩, by omega, by have := HF.out; simp; omega, HX.out, HO2.out, HU1.out⟩, by simp [intOf]; try omega⟩

theorem rtext_any (s : ByteArray) (hs : s.size ≤ 140737488355328) (w : World) : Calls Tryd.prog 43 #[.string s] w fun e w' => e = .returned (.string (str (varB s.size ++ s.data.toList))) ∧ Ext w w' := by
  have C := rvar_any s.size (by omega) w
  have hsm : s.size ≤ 9223372036854775807 := by omega
  have he : str (varB s.size) ++ s = str (varB s.size ++ s.data.toList) := by
    apply ByteArray.ext; simp
  have hle : ¬ 9223372036854775807 < (varB s.size).length + s.size := by have := varN_len 10 s.size; unfold varB; omega
  rw [← he]
  clear hs he
  go_enter Tryd.func43, Tryd.ntmps43
  go_wp2_with fail
  refine C.mono ?_
  rintro e w1 ⟨rfl, hU⟩
  go_wp2_with fail
  go_ret
  exact ⟨rfl, hU⟩

set_option maxRecDepth 8000 in
theorem rhash_any (hs : List UInt8) (hl : hs.length = 32) (w : World) : Calls Tryd.prog 44 #[.agg (hs.map u8v).toArray] w fun e w' => e = .returned (.string (str hs)) ∧ Ext w w' := by
  obtain ⟨i0, hi, hz0, hz1, hz2⟩ := info_parts info_u8
  have hb := blk_alloc w (.cells (hs.map u8v).toArray 34)
  have HL := Lib.hid hl
  have HB := Lib.hid hb
  have X := (Upd.refl none' w).alloc (.cells (hs.map u8v).toArray 34)
  have HX := Lib.hid X
  clear hl hb X
  go_enter Tryd.func44, Tryd.ntmps44
  go_wp2
  go_loopw [3, 4] (fun lv iv wr => ∃ (j : Nat) (l : Value), iv = .int .i64 j ∧ l = lv ∧ j ≤ 32 ∧ wr.ownsRow (w.heap.size + 1) 5 1 l (hs.take j).length ((hs.take j).map u8v) ∧ Ext (w.alloc (.cells (hs.map u8v).toArray 34)) wr) (fun _ iv _ => 32 - (intOf iv).toNat)
  case atStart => exact ⟨0, _, rfl, rfl, by omega, World.ownsRow_nil _ _ _ _, Upd.refl _ _⟩
  case round =>
    obtain ⟨j, l, rfl, rfl, hj, ho, hu⟩ := hrel
    have HO := Lib.hid ho
    have HU := Lib.hid hu
    by_cases hlt : j < 32
    · have hjl : j < hs.length := by rw [HL.out]; exact hlt
      have hc : wr.cell? ⟨w.heap.size, j, none⟩ = some (u8v hs[j]) := by
        rw [cell_of_blk (Ext.blk hu HB.out)]; simp [hjl]
      have HOa := Lib.hid (ownsRow_upd ho ((Upd.refl none' wr).alloc (.cells #[u8v hs[j]] 5)) (fun _ _ => id))
      have hBa : w.heap.size + 1 ≤ (wr.alloc (.cells #[u8v hs[j]] 5)).heap.size := by have := hu.size; simp at this; simp; omega
      have HBa := Lib.hid hBa
      have htl : (hs.take j).length + 1 ≤ maxLen := by have := List.length_take_le j hs; unfold maxLen; omega
      have ht : hs.take (j + 1) = hs.take j ++ [hs[j]] := by rw [List.take_succ_eq_append_getElem hjl]
      have HT := Lib.hid ht
      have HTL := Lib.hid htl
      clear ho hu hBa ht htl
      go_wp2_with (at_builtin; go_must (refine wpList_app rfl _ _ 28 rfl (w.heap.size + 1) 5 i0 (.int .u8 0) 1 1 Tryd.underlying28 hi hz0 hz1 hz2 rfl (by decide) l (hs.take j).length ((hs.take j).map u8v) rfl HOa.out ⟨wr.heap.size, 0, none⟩ 1 1 [u8v hs[j]] rfl rfl ?c1 ?c2 HTL.out ?c4 HBa.out ?_))
      case c1 => intro j u hu; exact cells_at (blk_alloc wr _) j u hu
      case c2 => intro u hu; simp at hu; subst hu; rfl
      case c4 => have := HTL.out; have := List.length_take_le j hs; omega
      intro v' w1 hown' hg _
      have hown2 : w1.ownsRow (w.heap.size + 1) 5 1 v' (hs.take (j + 1)).length ((hs.take (j + 1)).map u8v) := by
        rw [HT.out]
        simp only [List.length_append, List.map_append, List.length_take, List.map_take, List.length_cons, List.length_nil, List.map_cons, List.map_nil]
        exact hown'
      have hU1 := (HU.out.alloc (.cells #[u8v hs[j]] 5)).grown hg (fun k hk => .inl (by have := (HOa.out.lt k hk).1; simpa using this))
      have HO2 := Lib.hid hown2
      have HU1 := Lib.hid hU1
      clear hown' hown2 hg hU1
      go_wp2_with fail
      refine ⟨⟨j + 1, _, by simp, rfl, by omega, HO2.out, HU1.out⟩, by simp [intOf]; try omega⟩
    · obtain rfl : j = 32 := by omega
      rw [List.take_of_length_le (by rw [HL.out]; exact Nat.le_refl _)] at ho
      have hst := run_str_own wr ho
      have form := own_form ho
      clear ho hu
      rcases form with ⟨rfl, _⟩ | ⟨g, cap, rfl, _⟩
      all_goals
        go_wp2
        go_ret
        exact ⟨rfl, HX.out.trans (HU.out.mono (fun _ _ h => h))⟩
end Go.Proofs.YtkabomkikbdigaaDoor
