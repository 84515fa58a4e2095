/- The walk of StorePlays. -/
import Derived.Test.YtdkhnkhflbefbaaGreatDoorPlays0
import Derived.Test.YtdkhnkhflbefbaaGreatDoorBeyond2
import Derived.Test.YtdkhnkhflbefbaaGreatDoorAlive12
import Derived.Test.YtdkhnkhflbefbaaGreatDoorOpenR
namespace Go.Proofs.YtdkhnkhflbefbaaGreatDoor
open Go.RowKit Go.Lib Go.Sort

set_option maxRecDepth 20000 in
set_option maxHeartbeats 32000000 in
theorem plays_any {B : Nat} {se : Nat → Addr} {w : World} (G : Genv B se w) (T : Tab10 w) (hP : 17 < w.heap.size) {a sa : Option Addr} {zs : List Int} {os : List OpD} (hr : RdsAt w a zs) (ho : RowsAt opCells 5 w sa os) (hk : ∀ o ∈ os, o.Ok w) (hb : zs.length + os.length ≤ 1048576) (cap sc : Nat) (c : Int) :
    Calls Tryz.prog 3 #[.agg #[.slice a zs.length cap, .int .i64 c], .slice sa os.length sc] w fun e w' => e = .returned (.bool true) ∧ Ext w w' := by
  have X := (Upd.refl none' w).alloc (.cells #[.slice a zs.length cap, .int .i64 c] 24)
  have hq := blk_alloc w (.cells #[.slice a zs.length cap, .int .i64 c] 24)
  have q0 : World.cell? _ ⟨w.heap.size, 0, none⟩ = some (.slice a zs.length cap) := cell_of_blk hq 0
  have HX := Lib.hid X
  have HQ := Lib.hid hq
  have HG := Lib.hid G
  have HT := Lib.hid T
  have HPW := Lib.hid hP
  have HRD := Lib.hid hr
  have HOS := Lib.hid ho
  have HOK := Lib.hid hk
  have HBB := Lib.hid hb
  have hB2 := blk_alloc (w.alloc (.cells #[.slice a zs.length cap, .int .i64 c] 24)) (.cells #[.int .i64 zs.length, .int .i64 os.length] 3)
  rw [World.size_alloc] at hB2
  have CB := beyond_two _ zs.length os.length (by omega) _ hB2 (by omega)
  rw [show decide ((1048576 : Int) < wrap64 ((zs.length : Int) + os.length)) = false from decide_eq_false (by unfold wrap64; omega)] at CB
  have HX2 := Lib.hid (X.alloc (.cells #[.int .i64 zs.length, .int .i64 os.length] 3))
  have HQ2 := Lib.hid (blk_alloc_lt hq (.cells #[.int .i64 zs.length, .int .i64 os.length] 3))
  clear X hq G T hP hr ho hk hb hB2
  go_enter Tryz.func3, Tryz.ntmps3
  go_wp2_with fail
  refine CB.mono ?_
  rintro e w1 ⟨rfl, rfl⟩
  clear CB
  go_upto_region 3 with fail
  generalize hW : (w.alloc (.cells #[.slice a zs.length cap, .int .i64 c] 24)).alloc (.cells #[.int .i64 zs.length, .int .i64 os.length] 3) = W at *
  have HRDW := Lib.hid (HRD.out.ext HX2.out)
  have HSZW := Lib.hid (show w.heap.size < W.heap.size from lt_of_blk HQ2.out)
  generalize hqq : w.heap.size = q at q0 HQ HQ2
  have HQE := Lib.hid hqq
  have q0 : W.cell? ⟨q, 0, none⟩ = some (.slice a zs.length cap) := cell_of_blk HQ2.out 0
  have q1 : W.cell? ⟨q, 1, none⟩ = some (.int .i64 c) := cell_of_blk HQ2.out 1
  go_cut [5] from 24 to 29 (fun v w' => InRel W zs c W.heap.size v w')
  case first =>
    clear hW hqq
    have HC1 := Lib.hid (fun (w1 : World) (u : Ext W w1) => (⟨cell_of_blk (Ext.blk u HQ2.out) 0, cell_of_blk (Ext.blk u HQ2.out) 1⟩ : w1.cell? ⟨q, 0, none⟩ = some (.slice a zs.length cap) ∧ w1.cell? ⟨q, 1, none⟩ = some (.int .i64 c)))
    have z3 := (HC1.out _ ((Upd.refl none' W).alloc (.cells #[.slice none 0 0, .int .i64 0] 24))).1
    have z4 := (HC1.out _ ((Upd.refl none' W).alloc (.cells #[.slice none 0 0, .int .i64 0] 24))).2
    go_region_law (first
      | (go_simp; go_at_call 5
         refine (twinI_any a zs cap (W.drew) (HRDW.out.ext ((Upd.refl none' W).drew)) (by have := HBB.out; omega)).mono ?_
         rintro e w1 ⟨g, rfl, hb, hg, u⟩
         have e1 : Ext W w1 := Upd.trans ((Upd.refl none' W).drew) u
         have x4 := (HC1.out w1 e1).2
         have y4 := (HC1.out _ (e1.alloc (.cells #[.slice none 0 0, .int .i64 0] 24))).2
         have HTW := Lib.hid hb
         have HGL := Lib.hid (Nat.le_trans (show W.heap.size ≤ _ from ((Upd.refl none' W).drew).size) hg))
      | (go_simp; go_at_call 5
         refine (twinI_any a zs cap ((W.alloc (.cells #[.slice none 0 0, .int .i64 0] 24)).drew) (HRDW.out.ext (((Upd.refl none' W).alloc (.cells #[.slice none 0 0, .int .i64 0] 24)).drew)) (by have := HBB.out; omega)).mono ?_
         rintro e w1 ⟨g, rfl, hb, hg, u⟩
         have e1 : Ext W w1 := Upd.trans (((Upd.refl none' W).alloc (.cells #[.slice none 0 0, .int .i64 0] 24)).drew) u
         have x4 := (HC1.out w1 e1).2
         have y4 := (HC1.out _ (e1.alloc (.cells #[.slice none 0 0, .int .i64 0] 24))).2
         have HTW := Lib.hid hb
         have HGL := Lib.hid (Nat.le_trans (show W.heap.size ≤ _ from (((Upd.refl none' W).alloc (.cells #[.slice none 0 0, .int .i64 0] 24)).drew).size) hg)
         obtain ⟨x5, x6, x7, x8, x9⟩ := trouble_new u))
    all_goals
      go_wp2_with fail
      go_meet
      first
        | exact ⟨w1.heap.size, g, rfl, blk_alloc _ _, blk_alloc_lt HTW.out _, e1.size, HGL.out, e1.alloc _⟩
        | exact ⟨W.heap.size, g, rfl, blk_set (blk_set x5 0 (.slice (some ⟨g, 0, none⟩) zs.length (zs.length + 1))) 1 (.int .i64 c), blk_set_ne (blk_set_ne HTW.out (p := ⟨W.heap.size, 0, none⟩) (show g ≠ W.heap.size from fun e => by rw [e] at hg; simp at hg; omega) _) (p := ⟨W.heap.size, 1, none⟩) (show g ≠ W.heap.size from fun e => by rw [e] at hg; simp at hg; omega) _, Nat.le_refl _, HGL.out, (e1.setCell (p := ⟨W.heap.size, 0, none⟩) (.inl (Nat.le_refl _)) _).setCell (p := ⟨W.heap.size, 1, none⟩) (.inl (Nat.le_refl _)) _⟩
  case rest =>
    obtain ⟨fb, g, rfl, hfb, hg, hl1, hl2, hX⟩ := hcut
    have HFB := Lib.hid hfb
    have HG1 := Lib.hid hg
    have HX3 := Lib.hid (HX2.out.trans hX)
    have HQ3 := Lib.hid (Ext.blk hX HQ2.out)
    have HLO := Lib.hid (show w.heap.size < fb ∧ w.heap.size < g ∧ g < wc.heap.size from ⟨by have := HSZW.out; omega, by have := HSZW.out; omega, lt_of_blk hg⟩)
    have HFG := Lib.hid (show fb ≠ g from ty_ne hfb hg (by decide))
    clear hX q0 q1 hl1 hl2 hW hqq
    generalize wc = W1 at *
    have f0 : W1.cell? ⟨fb, 0, none⟩ = some (.slice (some ⟨g, 0, none⟩) zs.length (zs.length + 1)) := cell_of_blk hfb 0
    have f1 : W1.cell? ⟨fb, 1, none⟩ = some (.int .i64 c) := cell_of_blk hfb 1
    have HRI := Lib.hid (twAll_rds hg).1
    clear hfb hg
    cases hm : mayR zs with
    | false =>
      have CN := new_no (HG.out.ext HX3.out) (some ⟨g, 0, none⟩) zs (zs.length + 1) c HRI.out (by have := HBB.out; omega) hm
      go_wp2_with fail
      refine CN.mono ?_
      rintro e w2 ⟨rfl, u⟩
      have HU2 := Lib.hid u
      have HQ4 := Lib.hid (Ext.blk u HQ3.out)
      have q0 : w2.cell? ⟨q, 0, none⟩ = some (.slice a zs.length cap) := cell_of_blk HQ4.out 0
      have q1 : w2.cell? ⟨q, 1, none⟩ = some (.int .i64 c) := cell_of_blk HQ4.out 1
      have CR := rnew_no a zs cap c w2 (HRD.out.ext (HX3.out.trans u)) (by have := HBB.out; omega) hm
      clear u CN f0 f1
      go_wp2_with fail
      refine CR.mono ?_
      rintro e w3 ⟨rfl, u⟩
      have HU3 := Lib.hid ((HX3.out.trans HU2.out).trans u)
      have X4 := (Upd.refl none' w3).alloc (.cells #[.int .i64 2, .int .i64 (-1)] 35)
      have CS := same_any (v := sv se 2) (x := some (2, none)) (HG.out.ext (HU3.out.trans X4)) ⟨by decide, by decide, rfl⟩ 2 (-1)
      rw [show sameB (some (2, none)) 2 (-1) = true from by decide] at CS
      have HU4 := Lib.hid (HU3.out.trans X4)
      have HFB4 := Lib.hid (Ext.blk (HU2.out.trans (u.trans X4)) HFB.out)
      have HG4 := Lib.hid (Ext.blk (HU2.out.trans (u.trans X4)) HG1.out)
      have HQ5 := Lib.hid (Ext.blk (u.trans X4) HQ4.out)
      have HF4 := Lib.hid (blk_alloc w3 (.cells #[.int .i64 2, .int .i64 (-1)] 35))
      clear u X4 CR q0 q1
      go_wp2_with fail
      refine CS.mono ?_
      rintro e w5 ⟨rfl, u⟩
      have k0 : w5.cell? ⟨w3.heap.size, 0, none⟩ = some (.int .i64 2) := cell_of_blk (Ext.blk u HF4.out) 0
      have k1 : w5.cell? ⟨w3.heap.size, 1, none⟩ = some (.int .i64 (-1)) := cell_of_blk (Ext.blk u HF4.out) 1
      have f0 : w5.cell? ⟨fb, 0, none⟩ = some (.slice (some ⟨g, 0, none⟩) zs.length (zs.length + 1)) := cell_of_blk (Ext.blk u HFB4.out) 0
      have q0 : w5.cell? ⟨q, 0, none⟩ = some (.slice a zs.length cap) := cell_of_blk (Ext.blk u HQ5.out) 0
      have HU5 := Lib.hid (HU4.out.trans u)
      have CL := leftI_any (Ext.blk u HG4.out) (HRD.out.ext (HU4.out.trans u)) cap (by have := HBB.out; omega)
      clear u CS
      go_wp2_with fail
      refine CL.mono ?_
      rintro e w6 ⟨rfl, u⟩
      have HU6 := Lib.hid (HU5.out.trans u)
      have CA := alive12_any (HG.out.ext HU6.out)
      clear u CL
      go_wp2_with fail
      refine CA.mono ?_
      rintro e w7 ⟨rfl, u⟩
      go_wp2_with fail
      go_ret
      exact ⟨rfl, HU6.out.trans u⟩
    | true =>
      have CN := new_ok2 W1 (some ⟨g, 0, none⟩) zs (zs.length + 1) c HRI.out (by have := HBB.out; omega) hm
      go_wp2_with fail
      refine CN.mono ?_
      rintro e w2 ⟨sb, mb, tv, rfl, hst, b1, b2, u, b3⟩
      have HS2 := Lib.hid hst
      have HB2 := Lib.hid (And.intro b1 (And.intro b2 b3))
      have HU2 := Lib.hid u
      have HQ4 := Lib.hid (Ext.blk u HQ3.out)
      have q0 : w2.cell? ⟨q, 0, none⟩ = some (.slice a zs.length cap) := cell_of_blk HQ4.out 0
      have q1 : w2.cell? ⟨q, 1, none⟩ = some (.int .i64 c) := cell_of_blk HQ4.out 1
      have CR := rnew_ok a zs cap c w2 (HRD.out.ext (HX3.out.trans u)) (by have := HBB.out; omega) hm
      clear u CN f0 f1 hst b1 b2 b3
      go_wp2_with fail
      refine CR.mono ?_
      rintro e w3 ⟨rb, rtv, rfl, hrs, b4, u⟩
      have HD1 := Lib.hid (duo_new HX3.out HS2.out HB2.out.1 HB2.out.2.1 HU2.out HB2.out.2.2 hrs b4 u)
      have X4 := (Upd.refl none' w3).alloc (.cells #[.int .i64 0, .int .i64 0] 35)
      have HU3 := Lib.hid ((HX3.out.trans HU2.out).trans u)
      have CS := same_any (v := .nilIface) (x := none) (HG.out.ext (HU3.out.trans X4)) rfl 0 0
      rw [show sameB none 0 0 = true from by decide] at CS
      have HU4 := Lib.hid (HU3.out.trans X4)
      have HFB4 := Lib.hid (Ext.blk (HU2.out.trans (u.trans X4)) HFB.out)
      have HG4 := Lib.hid (Ext.blk (HU2.out.trans (u.trans X4)) HG1.out)
      have HQ5 := Lib.hid (Ext.blk (u.trans X4) HQ4.out)
      have HF4 := Lib.hid (blk_alloc w3 (.cells #[.int .i64 0, .int .i64 0] 35))
      have HX4 := Lib.hid X4
      clear u X4 CR q0 q1 hrs b4
      go_wp2_with fail
      refine CS.mono ?_
      rintro e w5 ⟨rfl, u⟩
      have k0 : w5.cell? ⟨w3.heap.size, 0, none⟩ = some (.int .i64 0) := cell_of_blk (Ext.blk u HF4.out) 0
      have k1 : w5.cell? ⟨w3.heap.size, 1, none⟩ = some (.int .i64 0) := cell_of_blk (Ext.blk u HF4.out) 1
      have HFB5 := Lib.hid (Ext.blk u HFB4.out)
      have HG5 := Lib.hid (Ext.blk u HG4.out)
      have f0 : w5.cell? ⟨fb, 0, none⟩ = some (.slice (some ⟨g, 0, none⟩) zs.length (zs.length + 1)) := cell_of_blk HFB5.out 0
      have q0 : w5.cell? ⟨q, 0, none⟩ = some (.slice a zs.length cap) := cell_of_blk (Ext.blk u HQ5.out) 0
      have HU5 := Lib.hid (HU4.out.trans u)
      have HY5 := Lib.hid (HX4.out.trans u)
      have CL := leftI_any (Ext.blk u HG4.out) (HRD.out.ext (HU4.out.trans u)) cap (by have := HBB.out; omega)
      clear u CS
      go_wp2_with fail
      refine CL.mono ?_
      rintro e w6 ⟨rfl, u⟩
      have HU6 := Lib.hid (HU5.out.trans u)
      have HY6 := Lib.hid (HY5.out.trans u)
      have HFB6 := Lib.hid (Ext.blk u HFB5.out)
      have HG6 := Lib.hid (Ext.blk u HG5.out)
      clear u CL f0 q0 k0 k1
      go_wp2_with fail
      go_loopw [10] (fun iv wr => WipeRel zs.length g w6 iv wr) (fun iv _ => zs.length - (RowKit.intOf iv).toNat)
      case atStart => exact ⟨0, _, rfl, Nat.zero_le _, HG6.out, by simp [twAll], Upd.refl _ _⟩
      case round =>
        obtain ⟨k, cs, rfl, hk, hcs, hsz, hU⟩ := hrel
        have HCS := Lib.hid hcs
        have HSC := Lib.hid hsz
        have HUR := Lib.hid hU
        have e0 : wr.cell? ⟨fb, 0, none⟩ = some (.slice (some ⟨g, 0, none⟩) zs.length (zs.length + 1)) := cell_of_blk (hU.blk HFB6.out (fun e => HFG.out e)) 0
        clear hcs hsz hU
        by_cases hlt : k < zs.length
        · have hki : (k : Int) < zs.length := by omega
          have hkb : k < 1099511627776 := by have := HBB.out; omega
          have cg : wr.cell? ⟨g, k, none⟩ = some (cs[k]'(by have := HSC.out; omega)) := by rw [cell_of_blk HCS.out]; simp [show k < cs.size from by have := HSC.out; omega]
          have fg := free_of_blk HCS.out k
          have HS2 := Lib.hid (blk_set HCS.out k (.int .i64 ((k : Int) + 1)))
          have HU2 := Lib.hid (HUR.out.setCell (p := ⟨g, k, none⟩) (.inr rfl) (.int .i64 ((k : Int) + 1)))
          generalize (cs[k]'(by have := HSC.out; omega)) = old at *
          go_wp2_with fail
          go_roundw
          case rel => exact ⟨k + 1, _, by simp, by omega, HS2.out, by simpa using HSC.out, HU2.out⟩
          case measure => simp [RowKit.intOf] <;> omega
        · obtain rfl : k = zs.length := by omega
          have hki : ¬ (zs.length : Int) < zs.length := by omega
          have HEW := Lib.hid (ext_then HU6.out HUR.out (fun k hk => by have e : k = g := hk; have := HLO.out.2.1; omega))
          have HDW := Lib.hid ((HD1.out.1.ext HY6.out).upd HUR.out (fun k hk hs => by have e : k = g := hs; have := HD1.out.2 k hk; have := HLO.out.2.2; omega))
          have HSW := Lib.hid HUR.out
          generalize wr = V at *
          have CN2 := new_ok2 V none [] 0 0 (RdsAt.nil V none) (by decide) (by decide)
          go_wp2_with fail
          refine CN2.mono ?_
          rintro e v2 ⟨ub, nb, tu, rfl, hst, b1, b2, u, b3⟩
          have HSV := Lib.hid hst
          have HBV := Lib.hid (And.intro b1 (And.intro b2 b3))
          have HV2 := Lib.hid u
          have CR2 := rnew_ok none [] 0 0 v2 (RdsAt.nil v2 none) (by decide) (by decide)
          clear u CN2 hst b1 b2 b3 e0
          go_wp2_with fail
          refine CR2.mono ?_
          rintro e v3 ⟨vb, ru, rfl, hrs, b4, u⟩
          have HD2 := Lib.hid (duo_new HEW.out HSV.out HBV.out.1 HBV.out.2.1 HV2.out HBV.out.2.2 hrs b4 u)
          have HV3 := Lib.hid (HV2.out.trans u)
          clear hrs b4 u CR2
          have HTN := Lib.hid (fun (w7 : World) (kb : Nat) (u7 : Ext v3 w7) (hk : EmpB w7 kb) (hkb : w.heap.size ≤ kb) => two_new HDW.out HEW.out HD2.out.1 HD2.out.2 (Upd.refl _ _) HV3.out u7 hk hkb ⟨by simp, by simp, by simp, by have := HBB.out; simp; omega⟩ ⟨by simp, by simp, by simp, by simp⟩)
          go_wp2_with fail
          have HKB := Lib.hid (show w.heap.size ≤ v3.heap.size + 1 from by have := HEW.out.size; have := HV3.out.size; omega)
          go_loopw [15] (fun iv wr => ∃ k : Nat, iv = .int .i64 k ∧ k ≤ os.length ∧ TwoD w wr sb mb rb ub nb vb (v3.heap.size + 1) (2 * k)) (fun iv _ => os.length - (RowKit.intOf iv).toNat)
          case atStart =>
            refine ⟨0, rfl, Nat.zero_le _, HTN.out _ _ (((Upd.refl none' v3).alloc (.cells #[.int .i64 0, .int .i64 0] 35)).alloc _) ?_ HKB.out⟩
            have h := blk_alloc (v3.alloc (.cells #[.int .i64 0, .int .i64 0] 35)) (.cells #[.int .i64 0, .slice none 0 0, .slice none 0 0, .slice none 0 0, .slice none 0 0, .slice none 0 0, .slice none 0 0, .slice none 0 0, .slice none 0 0, .slice none 0 0, .slice none 0 0, .slice none 0 0, .slice none 0 0, .slice none 0 0, .slice none 0 0, .slice none 0 0, .slice none 0 0] 58)
            rw [World.size_alloc] at h
            exact h
          case round =>
            obtain ⟨k, rfl, hk, hT⟩ := hrel
            have HTT := Lib.hid hT
            clear hT
            generalize wr = R at *
            by_cases hlt : k < os.length
            · have hki : (k : Int) < os.length := by omega
              have hkb : k < 1048576 := by have := HBB.out; omega
              have hob : os.length ≤ 1048576 := by have := HBB.out; omega
              obtain ⟨N0, x0, y0, tv0, av0, rtv0, tu0, au0, ru0, btv0, L0, C0, hI⟩ := HTT.out
              have HER := Lib.hid hI.ext
              clear hI
              obtain ⟨pb, po, rfl, hc⟩ := HOS.out k (os[k]'hlt) (List.getElem?_eq_getElem hlt)
              obtain ⟨pb2, po2, e2, hc2⟩ := HOS.out (os.length - 1 - k) (os[os.length - 1 - k]'(by omega)) (List.getElem?_eq_getElem (by omega))
              obtain ⟨rfl, rfl⟩ : pb = pb2 ∧ po = po2 := by simpa using e2
              have HO1 := Lib.hid (HOK.out (os[k]'hlt) (List.getElem_mem _))
              have HO2 := Lib.hid (HOK.out (os[os.length - 1 - k]'(by omega)) (List.getElem_mem _))
              have HC2 := Lib.hid hc2
              generalize os[k]'hlt = o1 at *
              generalize os[os.length - 1 - k]'(by omega) = o2 at *
              have p0 := HER.out.cellv (hc 0 _ rfl)
              have p1 := HER.out.cellv (hc 1 _ rfl)
              have p2 := HER.out.cellv (hc 2 _ rfl)
              have p3 := HER.out.cellv (hc 3 _ rfl)
              have p4 := HER.out.cellv (hc 4 _ rfl)
              simp only [Nat.add_zero] at p0
              clear hc hc2 e2
              have C1 := two_does1 HG.out HTT.out (by omega) o1 HO1.out
              unfold opCells at C1
              go_wp2_with fail
              refine C1.mono ?_
              rintro e w8 ⟨rfl, hT2⟩
              have HT2 := Lib.hid hT2
              obtain ⟨N1, x1, y1, tv1, av1, rtv1, tu1, au1, ru1, btv1, L1, C11, hI⟩ := HT2.out
              have HER2 := Lib.hid hI.ext
              clear hT2 C1 p0 p1 p2 p3 p4 hI
              have p0 := HER2.out.cellv (HC2.out 0 _ rfl)
              have p1 := HER2.out.cellv (HC2.out 1 _ rfl)
              have p2 := HER2.out.cellv (HC2.out 2 _ rfl)
              have p3 := HER2.out.cellv (HC2.out 3 _ rfl)
              have p4 := HER2.out.cellv (HC2.out 4 _ rfl)
              simp only [Nat.add_zero] at p0
              have C2 := two_does2 HG.out HT2.out (by omega) o2 HO2.out
              unfold opCells at C2
              go_wp2_with fail
              refine C2.mono ?_
              rintro e w9 ⟨rfl, hT3⟩
              have HT3 := Lib.hid hT3
              clear hT3 C2 p0 p1 p2 p3 p4
              go_wp2_with fail
              go_roundw
              case rel => exact ⟨k + 1, by simp, by omega, HT3.out⟩
              case measure => simp [RowKit.intOf] <;> omega
            · obtain rfl : k = os.length := by omega
              have hki : ¬ (os.length : Int) < os.length := by omega
              have HM := Lib.hid (show 2 * os.length ≤ 2097152 from by have := HBB.out; omega)
              have HLB := Lib.hid (show R.heap.size ≠ v3.heap.size + 1 ∧ w.heap.size ≤ R.heap.size from by
                obtain ⟨N0, x0, y0, tv0, av0, rtv0, tu0, au0, ru0, btv0, L0, C0, hI⟩ := HTT.out
                have h1 := lt_of_blk hI.bk.blk
                have h2 := hI.ext.size
                omega)
              have HE0 : Hid (EmpB (R.alloc (.cells #[.int .i64 0, .slice none 0 0, .slice none 0 0, .slice none 0 0, .slice none 0 0, .slice none 0 0, .slice none 0 0, .slice none 0 0, .slice none 0 0, .slice none 0 0, .slice none 0 0, .slice none 0 0, .slice none 0 0, .slice none 0 0, .slice none 0 0, .slice none 0 0, .slice none 0 0] 58)) R.heap.size) := Lib.hid (blk_alloc R (.cells #[.int .i64 0, .slice none 0 0, .slice none 0 0, .slice none 0 0, .slice none 0 0, .slice none 0 0, .slice none 0 0, .slice none 0 0, .slice none 0 0, .slice none 0 0, .slice none 0 0, .slice none 0 0, .slice none 0 0, .slice none 0 0, .slice none 0 0, .slice none 0 0, .slice none 0 0] 58))
              have C1 := two_stands1 (HTT.out.ext ((Upd.refl none' R).alloc (.cells #[.int .i64 0, .slice none 0 0, .slice none 0 0, .slice none 0 0, .slice none 0 0, .slice none 0 0, .slice none 0 0, .slice none 0 0, .slice none 0 0, .slice none 0 0, .slice none 0 0, .slice none 0 0, .slice none 0 0, .slice none 0 0, .slice none 0 0, .slice none 0 0, .slice none 0 0] 58))) (by have := HM.out; omega)
              go_wp2_with fail
              refine C1.mono ?_
              rintro e r1 ⟨rfl, hT, hE⟩
              have HE1 := Lib.hid (hE _ HE0.out HLB.out.1)
              have HT1 := Lib.hid hT
              clear hT hE C1
              have C2 := two_stands2 HT1.out (by have := HM.out; omega)
              go_wp2_with fail
              refine C2.mono ?_
              rintro e r2 ⟨rfl, hT, hE⟩
              have HE2 := Lib.hid (hE _ HE1.out HLB.out.1)
              have HT2 := Lib.hid hT
              clear hT hE C2
              have C3 := two_apart HT2.out HT.out (by have := HM.out; omega) HE2.out HLB.out.1 HLB.out.2
              go_wp2_with fail
              refine C3.mono ?_
              rintro e r3 ⟨rfl, hT⟩
              have HT3 := Lib.hid hT
              clear hT C3
              have C4 := two_stands1 HT3.out (by have := HM.out; omega)
              go_wp2_with fail
              refine C4.mono ?_
              rintro e r4 ⟨rfl, hT, -⟩
              have HT4 := Lib.hid hT
              clear hT C4
              have C5 := two_stands2 HT4.out (by have := HM.out; omega)
              go_wp2_with fail
              refine C5.mono ?_
              rintro e r5 ⟨rfl, hT, -⟩
              obtain ⟨N0, x0, y0, tv0, av0, rtv0, tu0, au0, ru0, btv0, L0, C0, hI⟩ := hT
              have HEZ := Lib.hid hI.ext
              clear hI C5
              have CA := alive12_any (HG.out.ext HEZ.out)
              go_wp2_with fail
              refine CA.mono ?_
              rintro e r6 ⟨rfl, u⟩
              have HEY := Lib.hid (HEZ.out.trans u)
              clear u CA
              go_wp2_with fail
              go_ret
              exact ⟨rfl, HEY.out⟩
end Go.Proofs.YtdkhnkhflbefbaaGreatDoor
