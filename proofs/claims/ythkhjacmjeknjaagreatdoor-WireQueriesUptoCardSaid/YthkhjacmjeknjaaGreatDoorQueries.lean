/- The walk of WireQueries. -/
import Derived.Test.YthkhjacmjeknjaaGreatDoorRefQ
import Derived.Test.YthkhjacmjeknjaaGreatDoorTwin
import Derived.Test.YthkhjacmjeknjaaGreatDoorAlive
import Derived.Test.YthkhjacmjeknjaaGreatDoorBackPlain
namespace Go.Proofs.YthkhjacmjeknjaaGreatDoor
open Go.RowKit Go.Lib

set_option maxRecDepth 8000 in
set_option maxHeartbeats 4000000 in
theorem queries_any {B : Nat} {se : Nat → Addr} {w : World} (G : Genv B se w) (A : Asks B w) (Tb : Tab10 w) (q : QryD) (hq : q.Ok) (ad : Option Addr) (ca : Nat) (hx : TextsAt w ad q.leaves) (hsz : sizes q.leaves + q.leaves.length ≤ 1048576) :
    Calls Tryz.prog 3 #[.agg (qCells q (.slice ad q.leaves.length ca)).toArray] w fun e w' => e = .returned (.bool true) ∧ Ext w w' := by
  have X := (Upd.refl none' w).alloc (.cells (qCells q (.slice ad q.leaves.length ca)).toArray 27)
  have hb := blk_alloc w (.cells (qCells q (.slice ad q.leaves.length ca)).toArray 27)
  have CT := textsSize_any (hx.later X) ca hsz
  obtain ⟨N, hN⟩ : ∃ N, sizes q.leaves + q.leaves.length = N := ⟨_, rfl⟩
  rw [hN] at CT
  have hNl : N ≤ 1048576 := by omega
  have X2 := X.alloc (.cells #[.int .i64 N] 3)
  have hb2 := blk_alloc (w.alloc (.cells (qCells q (.slice ad q.leaves.length ca)).toArray 27)) (.cells #[.int .i64 N] 3)
  have CB := beyond_one _ N (by omega) _ hb2
  have hd : decide (1048576 < N) = false := by simp; omega
  rw [hd] at CB
  have hba := Ext.blk ((Upd.refl none' _).alloc (.cells #[.int .i64 N] 3)) hb
  rw [World.size_alloc] at CB
  have hlv : q.leaves.length ≤ 1048576 := by omega
  have CW := twinQ_any q (hx.later X2) ca hlv (Tb.ext X2)
  have c7 := cell_of_blk hb 7
  simp only [qCells] at X2 hba CB CT CW c7 ⊢
  simp only [List.size_toArray, List.getElem?_toArray, List.getElem?_cons_zero, List.getElem?_cons_succ] at c7
  have HX := Lib.hid X2
  have HBA := Lib.hid hba
  have HG := Lib.hid G
  have HA := Lib.hid A
  have HTB := Lib.hid Tb
  have HOK := Lib.hid hq
  have HXS := Lib.hid hx
  have HLV := Lib.hid hlv
  clear X X2 hb hb2 hba G A Tb hq hx hd hN hNl hsz hlv
  go_enter Tryz.func3, Tryz.ntmps3
  go_wp2_with fail
  refine CT.mono ?_
  rintro e w0 ⟨rfl, rfl⟩
  clear CT
  go_wp2_with fail
  refine CB.mono ?_
  rintro e w1 ⟨rfl, rfl⟩
  have c0 := cell_of_blk HBA.out 0
  have c1 := cell_of_blk HBA.out 1
  have c2 := cell_of_blk HBA.out 2
  have c3 := cell_of_blk HBA.out 3
  have c4 := cell_of_blk HBA.out 4
  have c5 := cell_of_blk HBA.out 5
  have c6 := cell_of_blk HBA.out 6
  have c7 := cell_of_blk HBA.out 7
  simp only [List.size_toArray, List.getElem?_toArray, List.getElem?_cons_zero, List.getElem?_cons_succ] at c0 c1 c2 c3 c4 c5 c6 c7
  clear CB
  go_wp2_with fail
  refine CW.mono ?_
  rintro e w2 ⟨g, rfl, ht, u⟩
  have X2 := (Upd.refl none' w2).alloc (.cells #[.int .u8 q.kind, .int .u8 q.engine, .int .u64 q.size, .int .u64 q.index, .int .u64 q.old, .int .u64 q.bgn, .int .u64 q.fin, .slice (some ⟨g, 0, none⟩) q.leaves.length (q.leaves.length + 1)] 27)
  have hb2 := blk_alloc w2 (.cells #[.int .u8 q.kind, .int .u8 q.engine, .int .u64 q.size, .int .u64 q.index, .int .u64 q.old, .int .u64 q.bgn, .int .u64 q.fin, .slice (some ⟨g, 0, none⟩) q.leaves.length (q.leaves.length + 1)] 27)
  have ht2 : TwinTAt _ g q.leaves := Ext.blk X2 ht
  have CE := encQ_one (HG.out.ext (HX.out.trans (u.trans X2))) (HA.out.ext (HX.out.trans (u.trans X2))) q HOK.out (some ⟨g, 0, none⟩) (q.leaves.length + 1) (ht2.texts HOK.out.leaf)
  simp only [qCells] at CE
  have HU2 := Lib.hid (HX.out.trans (u.trans X2))
  have HB2 := Lib.hid hb2
  have HT2 := Lib.hid ht2
  have HBX2 := Lib.hid (Ext.blk (u.trans X2) HBA.out)
  clear X2 hb2 ht ht2 u CW c0 c1 c2 c3 c4 c5 c6 c7
  go_wp2_with fail
  refine CE.mono ?_
  rintro e w3 ⟨v, rfl, hv, u⟩
  have hbx := Ext.blk u HBX2.out
  have c0 := cell_of_blk hbx 0
  have c1 := cell_of_blk hbx 1
  have c2 := cell_of_blk hbx 2
  have c3 := cell_of_blk hbx 3
  have c4 := cell_of_blk hbx 4
  have c5 := cell_of_blk hbx 5
  have c6 := cell_of_blk hbx 6
  have c7 := cell_of_blk hbx 7
  simp only [List.size_toArray, List.getElem?_toArray, List.getElem?_cons_zero, List.getElem?_cons_succ] at c0 c1 c2 c3 c4 c5 c6 c7
  have HU3 := Lib.hid (HU2.out.trans u)
  have HV := Lib.hid hv
  have HBX3 := Lib.hid hbx
  have HB3 := Lib.hid (Ext.blk u HB2.out)
  have HT3 : Hid (TwinTAt w3 g q.leaves) := Lib.hid (Ext.blk u HT2.out)
  have CR := refE_any q HOK.out ad ca (HXS.out.later (HU2.out.trans u))
  simp only [qCells] at CR
  clear hbx u hv CE
  go_wp2_with fail
  refine CR.mono ?_
  rintro e w4 ⟨rfl, u⟩
  have hsame := same_qry q
  have X4 := (Upd.refl none' w4).alloc (.cells #[.int .i64 (efC (qryE q)), .int .i64 (efA (qryE q))] 36)
  have u4 := u.trans X4
  have CS := same_any (HG.out.ext (HU3.out.trans u4)) (HV.out.ext u4) (efC (qryE q)) (efA (qryE q))
  rw [hsame] at CS
  have HU4 := Lib.hid (HU3.out.trans u4)
  have HBX4 := Lib.hid (Ext.blk u4 HBX3.out)
  have HB4 := Lib.hid (Ext.blk u4 HB3.out)
  have HT4 : Hid (TwinTAt _ g q.leaves) := Lib.hid (Ext.blk u4 HT3.out)
  clear u X4 u4 CR hsame c0 c1 c2 c3 c4 c5 c6 c7
  go_wp2_with fail
  refine CS.mono ?_
  rintro e w5 ⟨rfl, u⟩
  have hbx := Ext.blk u HBX4.out
  have hbt := Ext.blk u HB4.out
  have c0 := cell_of_blk hbx 0
  have c1 := cell_of_blk hbx 1
  have c2 := cell_of_blk hbx 2
  have c3 := cell_of_blk hbx 3
  have c4 := cell_of_blk hbx 4
  have c5 := cell_of_blk hbx 5
  have c6 := cell_of_blk hbx 6
  have c7 := cell_of_blk hbx 7
  simp only [List.size_toArray, List.getElem?_toArray, List.getElem?_cons_zero, List.getElem?_cons_succ] at c0 c1 c2 c3 c4 c5 c6 c7
  have d0 := cell_of_blk hbt 0
  have d1 := cell_of_blk hbt 1
  have d2 := cell_of_blk hbt 2
  have d3 := cell_of_blk hbt 3
  have d4 := cell_of_blk hbt 4
  have d5 := cell_of_blk hbt 5
  have d6 := cell_of_blk hbt 6
  have d7 := cell_of_blk hbt 7
  simp only [List.size_toArray, List.getElem?_toArray, List.getElem?_cons_zero, List.getElem?_cons_succ] at d0 d1 d2 d3 d4 d5 d6 d7
  have HU5 := Lib.hid (HU4.out.trans u)
  have CL := leftQ_any q HOK.out.leaf (g := g) (w := w5) (Ext.blk u HT4.out) (HXS.out.later (HU4.out.trans u)) ca HLV.out (HTB.out.ext (HU4.out.trans u))
  simp only [qCells] at CL
  clear hbx hbt u CS
  go_wp2_with fail
  refine CL.mono ?_
  rintro e w6 ⟨rfl, u⟩
  have CA := alive_any (HG.out.ext (HU5.out.trans u)) (HA.out.ext (HU5.out.trans u))
  have HU6 := Lib.hid (HU5.out.trans u)
  clear u CL c0 c1 c2 c3 c4 c5 c6 c7 d0 d1 d2 d3 d4 d5 d6 d7
  go_wp2_with fail
  refine CA.mono ?_
  rintro e w7 ⟨rfl, u⟩
  have HU7 := Lib.hid (HU6.out.trans u)
  clear u CA
  go_wp2_with fail
  go_ret
  exact ⟨rfl, HU7.out⟩
end Go.Proofs.YthkhjacmjeknjaaGreatDoor
