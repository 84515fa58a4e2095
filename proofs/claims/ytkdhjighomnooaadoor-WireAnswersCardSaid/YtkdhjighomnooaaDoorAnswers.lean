/- The walk of WireAnswers. -/
import Derived.Test.YtkdhjighomnooaaDoorRefA2
import Derived.Test.YtkdhjighomnooaaDoorOnce
namespace Go.Proofs.YtkdhjighomnooaaDoor
open Go.RowKit Go.Lib

set_option maxRecDepth 8000 in
set_option maxHeartbeats 4000000 in
theorem answers_any {B : Nat} {se : Nat → Addr} {w : World} (G : Genv B se w) (A : Asks B w) (x : AnsD) (hx : x.Ok) (ad : Option Addr) (ca : Nat) (hh : HashesAt w ad x.hs) :
    Calls Tryd.prog 3 #[.agg (ansCells x (.slice ad x.hs.length ca))] w fun e w' => e = .returned (.bool true) ∧ Ext w w' := by
  have X := (Upd.refl none' w).alloc (.cells (ansCells x (.slice ad x.hs.length ca)) 26)
  have hb := blk_alloc w (.cells (ansCells x (.slice ad x.hs.length ca)) 26)
  have X2 := (X.alloc (.cells #[.int .i64 x.hs.length] 3))
  have hb2 := blk_alloc (w.alloc (.cells (ansCells x (.slice ad x.hs.length ca)) 26)) (.cells #[.int .i64 x.hs.length] 3)
  have CB := beyond_one _ x.hs.length hx.many _ hb2
  have hba := Ext.blk ((Upd.refl none' _).alloc (.cells #[.int .i64 x.hs.length] 3)) hb
  rw [World.size_alloc] at CB
  have CT := fun hn => twinA_any x hx (hh.later X2) ca hn
  have c0 := cell_of_blk hba 0
  have c1 := cell_of_blk hba 1
  have c2 := cell_of_blk hba 2
  have c3 := cell_of_blk hba 3
  simp only [ansCells] at X2 hba CB CT c0 c1 c2 c3 ⊢
  simp only [List.size_toArray, List.getElem?_toArray, List.getElem?_cons_zero, List.getElem?_cons_succ] at c0 c1 c2 c3
  have HX := Lib.hid X2
  have HBA := Lib.hid hba
  have HG := Lib.hid G
  have HA := Lib.hid A
  have HOK := Lib.hid hx
  have HHH := Lib.hid hh
  clear X X2 hb hb2 hba G A hx hh
  go_enter Tryd.func3, Tryd.ntmps3
  go_wp2_with fail
  refine CB.mono ?_
  rintro e w1 ⟨rfl, rfl⟩
  by_cases hbe : 1048576 < x.hs.length
  · have hd : decide (1048576 < x.hs.length) = true := by simp [hbe]
    rw [hd]
    clear CB CT hbe hd
    go_wp2_with fail
    go_ret
    exact ⟨rfl, HX.out⟩
  · have hd : decide (1048576 < x.hs.length) = false := by simp [hbe]
    rw [hd]
    have CT := CT (by omega)
    have HBE := Lib.hid (show x.hs.length ≤ 1048576 by omega)
    clear CB hd hbe
    go_wp2_with fail
    refine CT.mono ?_
    rintro e w2 ⟨g, rfl, ht, u⟩
    have X2 := (Upd.refl none' w2).alloc (.cells #[.int .u8 x.code, .int .u64 x.size, .slice (some ⟨g, 0, none⟩) x.hs.length (x.hs.length + 1), .string x.leaf] 26)
    have hb2 := blk_alloc w2 (.cells #[.int .u8 x.code, .int .u64 x.size, .slice (some ⟨g, 0, none⟩) x.hs.length (x.hs.length + 1), .string x.leaf] 26)
    have ht2 : TwinAt _ g x.hs := Ext.blk X2 ht
    have CE := encA_any (HG.out.ext (HX.out.trans (u.trans X2))) x HOK.out (some ⟨g, 0, none⟩) (x.hs.length + 1) (ht2.hashes HOK.out.len)
    simp only [ansCells] at CE
    have HU2 := Lib.hid (HX.out.trans (u.trans X2))
    have HB2 := Lib.hid hb2
    have HT2 := Lib.hid ht2
    have HBX2 := Lib.hid (Ext.blk (u.trans X2) HBA.out)
    clear X2 hb2 ht ht2 u CT c0 c1 c2 c3
    go_wp2_with fail
    refine CE.mono ?_
    rintro e w3 ⟨v, rfl, hv, u⟩
    have hbx := Ext.blk u HBX2.out
    have c0 := cell_of_blk hbx 0
    have c1 := cell_of_blk hbx 1
    have c2 := cell_of_blk hbx 2
    have c3 := cell_of_blk hbx 3
    simp only [List.size_toArray, List.getElem?_toArray, List.getElem?_cons_zero, List.getElem?_cons_succ] at c0 c1 c2 c3
    have HU3 := Lib.hid (HU2.out.trans u)
    have HV := Lib.hid hv
    have HBX3 := Lib.hid hbx
    have HB3 := Lib.hid (Ext.blk u HB2.out)
    have HT3 : Hid (TwinAt w3 g x.hs) := Lib.hid (Ext.blk u HT2.out)
    have CR := refA_any x HOK.out ad ca (HHH.out.later (HU2.out.trans u))
    simp only [ansCells] at CR
    clear hbx u hv CE
    go_wp2_with fail
    refine CR.mono ?_
    rintro e w4 ⟨rfl, u⟩
    have hsame := same_ans x
    have X4 := (Upd.refl none' w4).alloc (.cells #[.int .i64 (efC (ansE x)), .int .i64 (efA (ansE x))] 34)
    have u4 := u.trans X4
    have CS := same_any (HG.out.ext (HU3.out.trans u4)) (HV.out.ext u4) (efC (ansE x)) (efA (ansE x))
    rw [hsame] at CS
    have HU4 := Lib.hid (HU3.out.trans u4)
    have HBX4 := Lib.hid (Ext.blk u4 HBX3.out)
    have HB4 := Lib.hid (Ext.blk u4 HB3.out)
    have HT4 : Hid (TwinAt _ g x.hs) := Lib.hid (Ext.blk u4 HT3.out)
    clear u X4 u4 CR hsame c0 c1 c2 c3
    go_wp2_with fail
    refine CS.mono ?_
    rintro e w5 ⟨rfl, u⟩
    have hbx := Ext.blk u HBX4.out
    have hbt := Ext.blk u HB4.out
    have c0 := cell_of_blk hbx 0
    have c1 := cell_of_blk hbx 1
    have c2 := cell_of_blk hbx 2
    have c3 := cell_of_blk hbx 3
    have d0 := cell_of_blk hbt 0
    have d1 := cell_of_blk hbt 1
    have d2 := cell_of_blk hbt 2
    have d3 := cell_of_blk hbt 3
    simp only [List.size_toArray, List.getElem?_toArray, List.getElem?_cons_zero, List.getElem?_cons_succ] at c0 c1 c2 c3 d0 d1 d2 d3
    have HU5 := Lib.hid (HU4.out.trans u)
    have CL := leftA_any x HOK.out (g := g) (w := w5) (Ext.blk u HT4.out) (HHH.out.later (HU4.out.trans u)) ca HBE.out
    simp only [ansCells] at CL
    clear hbx hbt u CS
    go_wp2_with fail
    refine CL.mono ?_
    rintro e w6 ⟨rfl, u⟩
    have CA := alive_any (HG.out.ext (HU5.out.trans u)) (HA.out.ext (HU5.out.trans u))
    have HU6 := Lib.hid (HU5.out.trans u)
    clear u CL c0 c1 c2 c3 d0 d1 d2 d3
    go_wp2_with fail
    refine CA.mono ?_
    rintro e w7 ⟨rfl, u⟩
    have HU7 := Lib.hid (HU6.out.trans u)
    clear u CA
    go_wp2_with fail
    go_ret
    exact ⟨rfl, HU7.out⟩
end Go.Proofs.YtkdhjighomnooaaDoor
