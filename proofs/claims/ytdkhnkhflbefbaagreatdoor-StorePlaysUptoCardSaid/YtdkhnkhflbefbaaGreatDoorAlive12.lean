/- The statements' alive of the store by a contract. PRINTED by wip/tools/gen_alive12.py. -/
import Derived.Test.YtdkhnkhflbefbaaGreatDoorTxt
namespace Go.Proofs.YtdkhnkhflbefbaaGreatDoor
open Go.RowKit Go.Lib Go.Sort

theorem rds_one (w : World) (c : Int) : RdsAt (w.alloc (.cells #[.int .i64 c] 3)) (some ⟨w.heap.size, 0, none⟩) [c] := fun i x hx => by
  have hi : i < [c].length := (List.getElem?_eq_some_iff.1 hx).1
  have h0 : i = 0 := by simp at hi; exact hi
  subst h0
  obtain rfl : c = x := by simpa using hx
  exact ⟨_, 0, rfl, cell_of_blk (blk_alloc w (.cells #[.int .i64 c] 3)) 0⟩
theorem alive_p1 : StD.put ⟨[], [2], -2, 0, 0, false⟩ ⟨#[97]⟩ ⟨#[120]⟩ = (⟨[(⟨#[97]⟩, ⟨#[120]⟩)], [2], -2, 0, 1, false⟩, none) := by rfl
theorem alive_p2 : StD.put ⟨[(⟨#[97]⟩, ⟨#[120]⟩)], [2], -2, 0, 1, false⟩ ⟨#[97]⟩ ⟨#[121]⟩ = (⟨[(⟨#[97]⟩, ⟨#[121]⟩)], [2], -2, 0, 2, true⟩, some (8, none)) := by rfl
theorem alive_g1 : StD.get ⟨[(⟨#[97]⟩, ⟨#[121]⟩)], [2], 0, 0, 0, false⟩ ⟨#[97]⟩ = (⟨[(⟨#[97]⟩, ⟨#[121]⟩)], [2], 0, 1, 0, false⟩, ⟨#[121]⟩, none) := by rfl
theorem alive_g2 : StD.get ⟨[(⟨#[97]⟩, ⟨#[121]⟩)], [2], 0, 1, 0, false⟩ ⟨#[97]⟩ = (⟨[(⟨#[97]⟩, ⟨#[121]⟩)], [2], 0, 2, 0, false⟩, ⟨#[]⟩, some (7, none)) := by rfl
theorem alive_g3 : StD.get ⟨[(⟨#[97]⟩, ⟨#[121]⟩)], [2], 0, 2, 0, false⟩ ⟨#[98]⟩ = (⟨[(⟨#[97]⟩, ⟨#[121]⟩)], [2], 0, 3, 0, false⟩, ⟨#[]⟩, some (6, none)) := by rfl
theorem alive_n : namesL [(⟨#[97]⟩, ⟨#[121]⟩)] = [[97]] := by simp [namesL]
set_option maxRecDepth 8000 in
set_option maxHeartbeats 8000000 in
theorem alive12_any {B : Nat} {se : Nat → Addr} {w : World} (G : Genv B se w) : Calls Tryz.prog 10 #[] w fun e w' => e = .returned (.bool true) ∧ Ext w w' := by
  have X := (Upd.refl none' w).alloc (.cells #[.int .i64 2] 3)
  have CN := new_ok (w.alloc (.cells #[.int .i64 2] 3)) (some ⟨w.heap.size, 0, none⟩) [2] 1 (-2) (rds_one w 2) (by decide) (by decide)
  have HG := Lib.hid G
  have HX := Lib.hid X
  clear G X
  go_enter Tryz.func10, Tryz.ntmps10
  go_wp2_with fail
  refine CN.mono ?_
  rintro e w1 ⟨b, mb, tv, rfl, h, hb, hm, u⟩
  have HBB := Lib.hid (show B ≤ b ∧ B ≤ mb ∧ w.heap.size ≤ b ∧ w.heap.size ≤ mb from by have := HX.out.size; have := HG.out.size; omega)
  have HX1 := Lib.hid (HX.out.trans u)
  have HS := Lib.hid h
  have C := put_any (HG.out.ext HX1.out) h HBB.out.1 HBB.out.2.1 ⟨#[97]⟩ ⟨#[120]⟩ (by decide) (by decide) (by decide) (by decide)
  rw [alive_p1] at C
  clear h hb hm u CN
  go_wp2_with fail
  refine C.mono ?_
  rintro e w2 ⟨he, h, u⟩
  simp only [evS] at he
  subst he
  have HX2 := Lib.hid (HX1.out.then u (fun k hk e => by have := HBB.out; rcases e with e | e <;> omega))
  have C := put_any (HG.out.ext HX2.out) h HBB.out.1 HBB.out.2.1 ⟨#[97]⟩ ⟨#[121]⟩ (by decide) (by decide) (by decide) (by decide)
  rw [alive_p2] at C
  clear h u
  go_wp2_with fail
  refine C.mono ?_
  rintro e w3 ⟨he, h, u⟩
  simp only [evS] at he
  subst he
  have HX3 := Lib.hid (HX2.out.then u (fun k hk e => by have := HBB.out; rcases e with e | e <;> omega))
  have HS3 := Lib.hid h
  have C := is0_any (HG.out.ext HX3.out) (v := sv se 8) (x := some (8, none)) ⟨by decide, by decide, rfl⟩ 8
  rw [show (codeOf (some (8, none)) == 8 && (!placed (some (8, none)) || placeOf (some (8, none)) == 0)) = true from rfl] at C
  clear h u
  go_wp2_with fail
  refine C.mono ?_
  rintro e w4 ⟨rfl, u⟩
  have HX4 := Lib.hid (HX3.out.trans u)
  have HS4 := Lib.hid (HS3.out.ext u)
  have C := dead_any HS4.out
  clear u
  go_wp2_with fail
  refine C.mono ?_
  rintro e w5 ⟨rfl, u⟩
  have HX5 := Lib.hid (HX4.out.trans u)
  have X6 := (Upd.refl none' w5).alloc (.cells #[.int .i64 2] 3)
  have C := restart_ok ((HS4.out.ext u).ext X6) (some ⟨w5.heap.size, 0, none⟩) [2] 1 0 (rds_one w5 2) (by decide) (by decide)
  have HX6 := Lib.hid (HX5.out.trans X6)
  clear u X6
  go_wp2_with fail
  refine C.mono ?_
  rintro e w6 ⟨rfl, tv2, h, hg, u⟩
  have h : StAt w6 b mb tv2 ⟨[(⟨#[97]⟩, ⟨#[121]⟩)], [2], 0, 0, 0, false⟩ := h
  have HX7 := Lib.hid (HX6.out.then u (fun k hk e => by have := HBB.out; have : k = b := e; omega))
  have C := get_any (HG.out.ext HX7.out) h HBB.out.1 ⟨#[97]⟩ (by decide) (by decide) (by decide)
  rw [alive_g1] at C
  clear h hg u HS HS3 HS4
  go_wp2_with fail
  refine C.mono ?_
  rintro e w7 ⟨he, h, u⟩
  simp only [evS] at he
  subst he
  have HX8 := Lib.hid (HX7.out.then u (fun k hk e => by have := HBB.out; have : k = b := e; omega))
  have C := get_any (HG.out.ext HX8.out) h HBB.out.1 ⟨#[97]⟩ (by decide) (by decide) (by decide)
  rw [alive_g2] at C
  clear h u
  go_wp2_with fail
  refine C.mono ?_
  rintro e w8 ⟨he, h, u⟩
  simp only [evS] at he
  subst he
  have HX9 := Lib.hid (HX8.out.then u (fun k hk e => by have := HBB.out; have : k = b := e; omega))
  have C := get_any (HG.out.ext HX9.out) h HBB.out.1 ⟨#[98]⟩ (by decide) (by decide) (by decide)
  rw [alive_g3] at C
  clear h u
  go_wp2_with fail
  refine C.mono ?_
  rintro e w9 ⟨he, h, u⟩
  simp only [evS] at he
  subst he
  have HX10 := Lib.hid (HX9.out.then u (fun k hk e => by have := HBB.out; have : k = b := e; omega))
  have HS := Lib.hid h
  have C := counts_any h
  clear h u
  go_wp2_with fail
  refine C.mono ?_
  rintro e w10 ⟨rfl, u⟩
  have X11 := (Upd.refl none' w10).alloc (.cells #[.int .i64 0] 3)
  have HX11 := Lib.hid ((HX10.out.trans u).trans X11)
  have HS := Lib.hid ((HS.out.ext u).ext X11)
  have C := new_no (HG.out.ext HX11.out) (some ⟨w10.heap.size, 0, none⟩) [0] 1 0 (rds_one w10 0) (by decide) (by decide)
  clear u X11
  go_wp2_with fail
  refine C.mono ?_
  rintro e w11 ⟨rfl, u⟩
  have HX12 := Lib.hid (HX11.out.trans u)
  have HS := Lib.hid (HS.out.ext u)
  have C := is0_any (HG.out.ext HX12.out) (v := sv se 7) (x := some (7, none)) ⟨by decide, by decide, rfl⟩ 7
  rw [show (codeOf (some (7, none)) == 7 && (!placed (some (7, none)) || placeOf (some (7, none)) == 0)) = true from rfl] at C
  clear u
  go_wp2_with fail
  refine C.mono ?_
  rintro e w12 ⟨rfl, u⟩
  have HX13 := Lib.hid (HX12.out.trans u)
  have HS := Lib.hid (HS.out.ext u)
  have C := is0_any (HG.out.ext HX13.out) (v := sv se 6) (x := some (6, none)) ⟨by decide, by decide, rfl⟩ 6
  rw [show (codeOf (some (6, none)) == 6 && (!placed (some (6, none)) || placeOf (some (6, none)) == 0)) = true from rfl] at C
  clear u
  go_wp2_with fail
  refine C.mono ?_
  rintro e w13 ⟨rfl, u⟩
  have HX14 := Lib.hid (HX13.out.trans u)
  have HS := Lib.hid (HS.out.ext u)
  have C := is0_any (HG.out.ext HX14.out) (v := sv se 2) (x := some (2, none)) ⟨by decide, by decide, rfl⟩ 2
  rw [show (codeOf (some (2, none)) == 2 && (!placed (some (2, none)) || placeOf (some (2, none)) == 0)) = true from rfl] at C
  clear u
  go_wp2_with fail
  refine C.mono ?_
  rintro e w14 ⟨rfl, u⟩
  have HX15 := Lib.hid (HX14.out.trans u)
  have HS := Lib.hid (HS.out.ext u)
  have C := names_any HS.out (by decide)
  rw [alive_n] at C
  simp only [List.length_cons, List.length_nil] at C
  clear u
  go_wp2_with fail
  refine C.mono ?_
  rintro e w15 ⟨g, cap, rfl, ho, u⟩
  have X16 := (Upd.refl none' w15).alloc (.cells #[.string ⟨#[97]⟩] 9)
  have HX16 := Lib.hid ((HX15.out.trans u).trans X16)
  have HT1 := Lib.hid ((texts_of_own ho (by decide)).later X16)
  have hb2 := blk_alloc w15 (.cells #[.string ⟨#[97]⟩] 9)
  have HT2 : Hid (TextsAt (w15.alloc (.cells #[.string ⟨#[97]⟩] 9)) (some ⟨w15.heap.size, 0, none⟩) (strs [[97]])) := Lib.hid (fun i s hs => by
    have hi : i < (strs [[97]]).length := (List.getElem?_eq_some_iff.1 hs).1
    have h0 : i = 0 := by simp [strs] at hi; exact hi
    subst h0
    obtain rfl : (⟨#[97]⟩ : ByteArray) = s := by simpa [strs] using hs
    exact ⟨by decide, _, 0, rfl, cell_of_blk hb2 0⟩)
  have C := sameTexts_any HT1.out HT2.out cap 1 (by decide)
  rw [show (strs [[97]]).length = 1 from rfl] at C
  clear ho u X16 hb2
  go_wp2_with fail
  refine C.mono ?_
  rintro e w16 ⟨rfl, u⟩
  have HX17 := Lib.hid (HX16.out.trans u)
  clear u C
  go_wp2_with fail
  go_ret
  exact ⟨rfl, HX17.out⟩
end Go.Proofs.YtdkhnkhflbefbaaGreatDoor
