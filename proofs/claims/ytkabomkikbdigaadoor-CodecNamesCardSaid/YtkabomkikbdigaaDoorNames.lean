/- CodecNames: the walk. -/
import Derived.Test.YtkabomkikbdigaaDoorReader8
namespace Go.Proofs.YtkabomkikbdigaaDoor
open Go.RowKit Go.Lib

def h19 : List UInt8 := 1 :: (List.replicate 30 0 ++ [9])
theorem h19_cells : (h19.map u8v).toArray = #[.int .u8 1, .int .u8 0, .int .u8 0, .int .u8 0, .int .u8 0, .int .u8 0, .int .u8 0, .int .u8 0, .int .u8 0, .int .u8 0, .int .u8 0, .int .u8 0, .int .u8 0, .int .u8 0, .int .u8 0, .int .u8 0, .int .u8 0, .int .u8 0, .int .u8 0, .int .u8 0, .int .u8 0, .int .u8 0, .int .u8 0, .int .u8 0, .int .u8 0, .int .u8 0, .int .u8 0, .int .u8 0, .int .u8 0, .int .u8 0, .int .u8 0, .int .u8 9] := rfl
abbrev namesT : ByteArray := ⟨#[255, 255, 255, 255, 255, 255, 255, 255, 255, 1, 1, 0, 0, 0, 0, 0, 0, 0, 0, 0, 0, 0, 0, 0, 0, 0, 0, 0, 0, 0, 0, 0, 0, 0, 0, 0, 0, 0, 0, 0, 0, 9]⟩
theorem names_put : str ([] ++ varB 18446744073709551615 ++ h19) = namesT := by rfl
abbrev nT1 : ByteArray := ⟨#[255, 255, 255, 255, 255, 255, 255, 255, 255, 2]⟩
abbrev nT2 : ByteArray := ⟨#[2, 97, 98, 7]⟩
abbrev nT3 : ByteArray := ⟨#[3, 97]⟩
theorem names_1 : RdD.var ⟨nT1, 0, none⟩ = (0, ⟨nT1, 0, some (3, some 0)⟩) := by rfl
theorem names_2 : RdD.text ⟨nT2, 0, none⟩ 1 = ([], ⟨nT2, 1, some (4, none)⟩) := by rfl
theorem names_3 : RdD.text ⟨nT3, 0, none⟩ 9 = ([], ⟨nT3, 1, some (3, some 0)⟩) := by rfl
theorem names_4 : RdD.fin ⟨nT1, 0, some (3, some 0)⟩ = some (3, some 0) := by rfl
theorem names_5 : RdD.fin ⟨nT2, 1, some (4, none)⟩ = some (4, none) := by rfl
theorem names_6 : RdD.fin ⟨nT3, 1, some (3, some 0)⟩ = some (3, some 0) := by rfl
theorem names_7 : RdD.left ⟨nT2, 1, some (4, none)⟩ = 0 := by rfl
theorem names_8 : sameB (some (3, some 0)) 3 0 = true := by rfl
theorem names_9 : sameB (some (4, none)) 4 (if (4 : Int) = 0 then 0 else -1) = true := by rfl
theorem names_10 : sameB (some (1, none)) 1 (if (1 : Int) = 0 then 0 else -1) = true := by rfl
theorem names_11 : (namesT.extract 0 10).toList = [255, 255, 255, 255, 255, 255, 255, 255, 255, 1] := by decide +kernel
theorem str_nil : str [] = ⟨#[]⟩ := by rfl
set_option maxRecDepth 20000 in
set_option maxHeartbeats 2000000 in
/-- CodecNames: it holds. -/
theorem names_any {B : Nat} {se : Nat → Addr} {w : World} (G : Genv B se w) : Calls Tryd.prog 5 #[] w fun e w' => e = .returned (.bool true) ∧ Ext w w' := by
  have HG := Lib.hid G
  clear G
  go_enter Tryd.func5, Tryd.ntmps5
  go_wp2_with fail
  refine (own_new HG.out).mono ?_
  rintro e w1 ⟨rfl, O⟩
  have HO1 := Lib.hid O; clear O
  go_wp2_with fail
  refine (HO1.out.var 18446744073709551615 (by decide) (by decide)).mono ?_
  rintro e w2 ⟨rfl, O⟩
  have HO2 := Lib.hid O; clear O
  go_wp2_with fail
  have C := HO2.out.hash h19 (by rfl) (by decide)
  rw [h19_cells] at C
  refine C.mono ?_
  rintro e w3 ⟨rfl, O⟩
  have HO3 := Lib.hid O; clear O C
  go_wp2_with fail
  refine HO3.out.done.mono ?_
  rintro e w4 ⟨rfl, rfl⟩
  rw [names_put]
  go_wp2_with fail
  refine (ownR_new HO3.out.g nT1 (by decide)).mono ?_
  rintro e w5 ⟨rfl, O⟩
  have HA1 := Lib.hid O; clear O
  have X0 := HO3.out.x
  clear HO1 HO2
  have HX0 := Lib.hid X0; clear X0 HO3
  go_wp2_with fail
  refine HA1.out.var.mono ?_
  rw [names_1]
  rintro e w6 ⟨rfl, O⟩
  have HA2 := Lib.hid O; clear O HA1
  go_wp2_with fail
  refine (ownR_new HA2.out.g nT2 (by decide)).mono ?_
  rintro e w7 ⟨rfl, O⟩
  have HB1 := Lib.hid O; clear O
  go_wp2_with fail
  refine (HB1.out.text 1 (by decide)).mono ?_
  rw [names_2]
  rintro e w8 ⟨rfl, O⟩
  have HB2 := Lib.hid O; clear O HB1
  dsimp only
  rw [str_nil]
  go_wp2_with fail
  refine (ownR_new HB2.out.g nT3 (by decide)).mono ?_
  rintro e w9 ⟨rfl, O⟩
  have HC1 := Lib.hid O; clear O
  go_wp2_with fail
  refine (HC1.out.text 9 (by decide)).mono ?_
  rw [names_3]
  rintro e w10 ⟨rfl, O⟩
  have HC2 := Lib.hid O; clear O HC1
  dsimp only
  rw [str_nil]
  have HA3 := Lib.hid (HA2.out.ext (HB2.out.e.thenExt HC2.out.e))
  have HB3 := Lib.hid (HB2.out.ext HC2.out.e)
  have q1 := names_11
  go_wp2_with fail
  all_goals first | (exact absurd names_11 (by assumption)) | skip
  clear q1
  have HT := Lib.hid (HX0.out.thenExt HA3.out.e)
  have HC3 := HC2
  clear HX0 HA2 HB2 HC2
  refine (end_ok HA3.out.g HA3.out.r).mono ?_
  rw [names_4]
  rintro e w11 ⟨v, rfl, hv, u⟩
  have E1 := Lib.hid u
  have HV := Lib.hid hv; clear hv u
  go_wp2_with fail
  refine (at2_any (HA3.out.g.ext E1.out) HV.out 3 0).mono ?_
  rw [names_8]
  rintro e w12 ⟨rfl, u⟩
  have E2 := Lib.hid (E1.out.thenExt u); clear u E1 HV
  go_wp2_with fail
  refine (end_ok (HB3.out.g.ext E2.out) (HB3.out.r.ext E2.out)).mono ?_
  rw [names_5]
  rintro e w13 ⟨v2, rfl, hv, u⟩
  have E3 := Lib.hid (E2.out.thenExt u)
  have HV := Lib.hid hv; clear hv u E2
  go_wp2_with fail
  refine (is2_any (HA3.out.g.ext E3.out) HV.out 4).mono ?_
  rw [names_9]
  rintro e w14 ⟨rfl, u⟩
  have E4 := Lib.hid (E3.out.thenExt u); clear u E3 HV
  go_wp2_with fail
  refine (left_ok (HB3.out.r.ext E4.out)).mono ?_
  rw [names_7]
  rintro e w15 ⟨rfl, u⟩
  have E5 := Lib.hid (E4.out.thenExt u); clear u E4
  go_wp2_with fail
  refine (end_ok (HC3.out.g.ext E5.out) (HC3.out.r.ext E5.out)).mono ?_
  rw [names_6]
  rintro e w16 ⟨v3, rfl, hv, u⟩
  have E6 := Lib.hid (E5.out.thenExt u)
  have HV := Lib.hid hv; clear hv u E5
  go_wp2_with fail
  refine (at2_any (HA3.out.g.ext E6.out) HV.out 3 0).mono ?_
  rw [names_8]
  rintro e w17 ⟨rfl, u⟩
  have E7 := Lib.hid (E6.out.thenExt u); clear u E6 HV
  go_wp2_with fail
  refine (lives_any (HA3.out.g.ext E7.out)).mono ?_
  rintro e w18 ⟨rfl, u⟩
  have E8 := Lib.hid (E7.out.thenExt u); clear u E7
  go_wp2_with fail
  refine (end_idle (.inl rfl) (HA3.out.g.ext E8.out)).mono ?_
  rintro e w19 ⟨rfl, rfl⟩
  go_wp2_with fail
  have HS := Lib.hid (show ErrIs se w18 (sv se 1) (some (1, none)) from ⟨by decide, by decide, rfl⟩)
  refine (is2_any (HA3.out.g.ext E8.out) HS.out 1).mono ?_
  rw [names_10]
  rintro e w20 ⟨rfl, u⟩
  have E9 := Lib.hid (E8.out.thenExt u); clear u E8 HS
  go_wp2_with fail
  refine (wfixed_nil _ _ _ (HA3.out.g.ext E9.out)).mono ?_
  rintro e w21 ⟨rfl, rfl⟩
  go_wp2_with fail
  have HS := Lib.hid (show ErrIs se w20 (sv se 1) (some (1, none)) from ⟨by decide, by decide, rfl⟩)
  refine (is2_any (HA3.out.g.ext E9.out) HS.out 1).mono ?_
  rw [names_10]
  rintro e w22 ⟨rfl, u⟩
  have E10 := Lib.hid (E9.out.thenExt u); clear u E9 HS
  go_wp2_with fail
  have X := (Upd.refl none' w22).alloc (.cells #[.string ⟨#[]⟩, .int .i64 0, .nilIface, .bool false] 62)
  have E11 := Lib.hid (E10.out.thenExt X)
  have I : IdleR (.pointer (some ⟨w22.heap.size, 0, none⟩)) (w22.alloc (.cells #[.string ⟨#[]⟩, .int .i64 0, .nilIface, .bool false] 62)) := .inr ⟨_, rfl, cell_of_blk (blk_alloc w22 _) 3⟩
  refine (end_idle I (HA3.out.g.ext E11.out)).mono ?_
  rintro e w23 ⟨rfl, rfl⟩
  clear X I
  have HS := Lib.hid (show ErrIs se (w22.alloc (.cells #[.string ⟨#[]⟩, .int .i64 0, .nilIface, .bool false] 62)) (sv se 1) (some (1, none)) from ⟨by decide, by decide, rfl⟩)
  generalize w22.alloc (.cells #[.string ⟨#[]⟩, .int .i64 0, .nilIface, .bool false] 62) = w24 at E11 HS ⊢
  go_wp2_with fail
  refine (is2_any (HA3.out.g.ext E11.out) HS.out 1).mono ?_
  rw [names_10]
  rintro e w25 ⟨rfl, u⟩
  have E12 := Lib.hid (HT.out.thenExt (E11.out.thenExt u)); clear u E11 HS
  go_wp2_with fail
  refine (wdone_none _).mono ?_
  rintro e w26 ⟨rfl, rfl⟩
  go_wp2_with fail
  go_ret
  exact ⟨rfl, E12.out⟩
end Go.Proofs.YtkabomkikbdigaaDoor
