/- The statements' does of chapter 12 by contracts: Restart. -/
import Derived.Test.YtdkhnkhflbefbaaGreatDoorStands
namespace Go.Proofs.YtdkhnkhflbefbaaGreatDoor
open Go.RowKit Go.Lib Go.Sort

/-- The copy of trouble that is handed in. -/
def InRel (W : World) (zs : List Int) (c : Int) (n0 : Nat) (v : Value) (w' : World) : Prop :=
  ∃ fb g, v = .pointer (some ⟨fb, 0, none⟩) ∧ w'.heap[fb]? = some (.cells #[.slice (some ⟨g, 0, none⟩) zs.length (zs.length + 1), .int .i64 c] 24 (0, 0)) ∧ w'.heap[g]? = some (.cells (twAll zs).toArray 3 (0, 0)) ∧ n0 ≤ fb ∧ n0 ≤ g ∧ Ext W w'
def WipeRel (n g : Nat) (W : World) (iv : Value) (wr : World) : Prop := ∃ (k : Nat) (cs : Array Value), iv = .int .i64 k ∧ k ≤ n ∧ wr.heap[g]? = some (.cells cs 3 (0, 0)) ∧ cs.size = n + 1 ∧ Upd (one g) W wr
theorem trouble_new {W w1 : World} (u : Ext ((W.alloc (.cells #[.slice none 0 0, .int .i64 0] 24)).drew) w1) :
    w1.heap[W.heap.size]? = some (.cells #[.slice none 0 0, .int .i64 0] 24 (0, 0)) ∧ w1.cell? ⟨W.heap.size, 0, none⟩ = some (.slice none 0 0) ∧ w1.cell? ⟨W.heap.size, 1, none⟩ = some (.int .i64 0) ∧ w1.frozen? ⟨W.heap.size, 0, none⟩ = false ∧ w1.frozen? ⟨W.heap.size, 1, none⟩ = false := by
  have hb := Ext.blk u (show ((W.alloc (.cells #[.slice none 0 0, .int .i64 0] 24)).drew).heap[W.heap.size]? = _ from blk_alloc W _)
  exact ⟨hb, cell_of_blk hb 0, cell_of_blk hb 1, free_of_blk hb 0, free_of_blk hb 1⟩
set_option maxRecDepth 20000 in
set_option maxHeartbeats 16000000 in
theorem does_restart {B : Nat} {se : Nat → Addr} {w0 w : World} (G : Genv B se w0) (E : Ext w0 w) {sb mb rb kb N : Nat} {tv av rtv btv : Value} {x : StD} {L : List HeldD} {C : Nat → List Value} (D : Duo w0.heap.size w sb mb rb tv av rtv x) (K : BkAt w0.heap.size w kb btv L C N)
    (hF : x.Few 4194303) (nm tx : ByteArray) (a : Option Addr) (zs : List Int) (hr : RdsAt w0 a zs) (hz : zs.length ≤ 1099511627776) (cap : Nat) (c : Int) :
    Calls Tryz.prog 11 #[.pointer (some ⟨sb, 0, none⟩), .pointer (some ⟨rb, 0, none⟩), .agg #[.int .i64 3, .string nm, .string tx, .slice a zs.length cap, .int .i64 c], .pointer (some ⟨kb, 0, none⟩)] w (DoesPost w0 sb mb rb kb N tv av rtv btv L w (if mayR zs then x.take zs c else x)) := by
  have X := (Upd.refl none' w).alloc (.cells #[.int .i64 3, .string nm, .string tx, .slice a zs.length cap, .int .i64 c] 61)
  have hq := blk_alloc w (.cells #[.int .i64 3, .string nm, .string tx, .slice a zs.length cap, .int .i64 c] 61)
  have HX := Lib.hid X
  have HQ := Lib.hid hq
  have HD := Lib.hid D
  have HK := Lib.hid K
  have HG := Lib.hid G
  have HE := Lib.hid E
  have HF := Lib.hid hF
  have HZ := Lib.hid hz
  have HRD := Lib.hid (hr.ext (E.trans X))
  have HRD0 := Lib.hid hr
  have q0 : World.cell? _ ⟨w.heap.size, 0, none⟩ = some (.int .i64 3) := cell_of_blk HQ.out 0
  have q3 : World.cell? _ ⟨w.heap.size, 3, none⟩ = some (.slice a zs.length cap) := cell_of_blk HQ.out 3
  have q4 : World.cell? _ ⟨w.heap.size, 4, none⟩ = some (.int .i64 c) := cell_of_blk HQ.out 4
  have HW : Hid (∀ g, fpD sb mb rb tv av rtv g → g ≠ w.heap.size) := Lib.hid (fun g hg e => by have := HD.out.lt g hg; omega)
  clear X hq D K G E hF hr hz
  generalize hW : w.alloc (.cells #[.int .i64 3, .string nm, .string tx, .slice a zs.length cap, .int .i64 c] 61) = W at *
  generalize hqq : w.heap.size = q at q0 q3 q4 HQ HW
  have HQE := Lib.hid hqq
  generalize hy : (if mayR zs then x.take zs c else x) = y
  have HY := Lib.hid hy
  clear hy
  go_enter Tryz.func11, Tryz.ntmps11
  go_upto_region 9 with fail
  go_cut [13] from 58 to 65 (fun v w' => InRel W zs c W.heap.size v w')
  case first =>
    clear hW hqq
    have HD1 := Lib.hid (fun (w1 : World) (u : Ext W w1) => (⟨cell_of_blk (Ext.blk u HQ.out) 3, cell_of_blk (Ext.blk u HQ.out) 4⟩ : w1.cell? ⟨q, 3, none⟩ = some (.slice a zs.length cap) ∧ w1.cell? ⟨q, 4, none⟩ = some (.int .i64 c)))
    have z3 := (HD1.out _ ((Upd.refl none' W).alloc (.cells #[.slice none 0 0, .int .i64 0] 24))).1
    have z4 := (HD1.out _ ((Upd.refl none' W).alloc (.cells #[.slice none 0 0, .int .i64 0] 24))).2
    go_region_law (first
      | (go_simp; go_at_call 5
         refine (twinI_any a zs cap (W.drew) (HRD.out.ext ((Upd.refl none' W).drew)) (by have := HZ.out; omega)).mono ?_
         rintro e w1 ⟨g, rfl, hb, hg, u⟩
         have e1 : Ext W w1 := Upd.trans ((Upd.refl none' W).drew) u
         have x4 := (HD1.out w1 e1).2
         have y4 := (HD1.out _ (e1.alloc (.cells #[.slice none 0 0, .int .i64 0] 24))).2
         have HTW := Lib.hid hb
         have HGL := Lib.hid (Nat.le_trans (show W.heap.size ≤ _ from ((Upd.refl none' W).drew).size) hg))
      | (go_simp; go_at_call 5
         refine (twinI_any a zs cap ((W.alloc (.cells #[.slice none 0 0, .int .i64 0] 24)).drew) (HRD.out.ext (((Upd.refl none' W).alloc (.cells #[.slice none 0 0, .int .i64 0] 24)).drew)) (by have := HZ.out; omega)).mono ?_
         rintro e w1 ⟨g, rfl, hb, hg, u⟩
         have e1 : Ext W w1 := Upd.trans (((Upd.refl none' W).alloc (.cells #[.slice none 0 0, .int .i64 0] 24)).drew) u
         have x4 := (HD1.out w1 e1).2
         have y4 := (HD1.out _ (e1.alloc (.cells #[.slice none 0 0, .int .i64 0] 24))).2
         have HTW := Lib.hid hb
         have HGL := Lib.hid (Nat.le_trans (show W.heap.size ≤ _ from (((Upd.refl none' W).alloc (.cells #[.slice none 0 0, .int .i64 0] 24)).drew).size) hg)
         obtain ⟨x5, x6, x7, x8, x9⟩ := trouble_new u))
    all_goals
      go_wp2_with fail
      go_meet
      first
        | exact ⟨w1.heap.size, g, rfl, blk_alloc _ _, blk_alloc_lt HTW.out _, e1.size, HGL.out, e1.alloc _⟩
        | exact ⟨W.heap.size, g, rfl, blk_set (blk_set x5 0 (.slice (some ⟨g, 0, none⟩) zs.length (zs.length + 1))) 1 (.int .i64 c), blk_set_ne (blk_set_ne HTW.out (p := ⟨W.heap.size, 0, none⟩) (show g ≠ W.heap.size from fun e => by rw [e] at hg; simp at hg; omega) _) (p := ⟨W.heap.size, 1, none⟩) (show g ≠ W.heap.size from fun e => by rw [e] at hg; simp at hg; omega) _, Nat.le_refl _, HGL.out, (e1.setCell (p := ⟨W.heap.size, 0, none⟩) (.inl (Nat.le_refl _)) _).setCell (p := ⟨W.heap.size, 1, none⟩) (.inl (Nat.le_refl _)) _⟩
  case rest =>
    obtain ⟨fb, g, rfl, hfb, hg, hl1, hl2, hX⟩ := hcut
    have HFB := Lib.hid hfb
    have HG1 := Lib.hid hg
    have HX1 := Lib.hid hX
    have HQ1 := Lib.hid (Ext.blk hX HQ.out)
    have HD0 := Lib.hid (HD.out.ext (HX.out.trans hX))
    have HE0 := Lib.hid (HE.out.trans (HX.out.trans hX))
    have HXW := Lib.hid (HX.out.trans hX)
    have HFL := Lib.hid (show sb < fb ∧ sb < g ∧ rb < fb ∧ rb < g from by
      have h1 := HD.out.lt sb (.inl rfl)
      have h2 := HD.out.lt rb (.inr (.inr (.inl rfl)))
      have h3 := HX.out.size
      omega)
    have HGB := Lib.hid (show ∀ k, fpD sb mb rb tv av rtv k → k ≠ g from fun k hk e => by
      have h1 := HD.out.lt k hk
      have h3 := HX.out.size
      omega)
    have HSZ := Lib.hid (show w.heap.size ≤ g ∧ g < wc.heap.size ∧ w.heap.size ≤ wc.heap.size from ⟨by have := HX.out.size; omega, lt_of_blk hg, (HX.out.trans hX).size⟩)
    have hfg : fb ≠ g := ty_ne hfb hg (by decide)
    have HFG := Lib.hid hfg
    clear hX q0 q3 q4 hl1 hl2 hW hqq hfg
    generalize wc = W1 at *
    have f0 : W1.cell? ⟨fb, 0, none⟩ = some (.slice (some ⟨g, 0, none⟩) zs.length (zs.length + 1)) := cell_of_blk hfb 0
    have f1 : W1.cell? ⟨fb, 1, none⟩ = some (.int .i64 c) := cell_of_blk hfb 1
    have q3 : W1.cell? ⟨q, 3, none⟩ = some (.slice a zs.length cap) := cell_of_blk HQ1.out 3
    have q4 : W1.cell? ⟨q, 4, none⟩ = some (.int .i64 c) := cell_of_blk HQ1.out 4
    have HDR := Lib.hid ((Upd.refl none' W1).drew)
    have HD1 := Lib.hid (HD0.out.ext HDR.out)
    have HE1 := Lib.hid (HE0.out.trans HDR.out)
    clear hfb hg
    cases hm : mayR zs with
    | true =>
      have CS := restart_ok HD1.out.st (some ⟨g, 0, none⟩) zs (zs.length + 1) c (twAll_rds (Ext.blk HDR.out HG1.out)).1 (by have := HZ.out; omega) hm
      have HCR := Lib.hid (fun (w3 : World) (h : RStAt w0.heap.size w3 rb av rtv x) (hz : w0.heap.size ≤ w3.heap.size) (hr : RdsAt w3 a zs) => rrestart_ok h hz a zs cap c hr (by have := HZ.out; omega) hm)
      go_wp2_with fail
      go_region_held3 (fun w' => w'.cell? ⟨fb, 0, none⟩ = some (.slice (some ⟨g, 0, none⟩) zs.length (zs.length + 1)) ∧ w'.cell? ⟨fb, 1, none⟩ = some (.int .i64 c) ∧ w'.cell? ⟨q, 3, none⟩ = some (.slice a zs.length cap) ∧ w'.cell? ⟨q, 4, none⟩ = some (.int .i64 c))
        (first
          | exact ⟨f0, f1, q3, q4⟩
          | exact ⟨cell_of_blk HFB3.out 0, cell_of_blk HFB3.out 1, cell_of_blk HQ3.out 3, cell_of_blk HQ3.out 4⟩
          | exact ⟨cell_of_blk HFB4.out 0, cell_of_blk HFB4.out 1, cell_of_blk HQ4.out 3, cell_of_blk HQ4.out 4⟩
          | exact ⟨cell_of_blk HFB5.out 0, cell_of_blk HFB5.out 1, cell_of_blk HQ5.out 3, cell_of_blk HQ5.out 4⟩
          | exact ⟨cell_of_blk HFB6.out 0, cell_of_blk HFB6.out 1, cell_of_blk HQ6.out 3, cell_of_blk HQ6.out 4⟩)
        ((first
          | (go_at_call 26
             refine CS.mono ?_
             rintro e w3 ⟨rfl, tv2, hst, htv, u⟩
             have HST3 := Lib.hid hst
             have HTV3 := Lib.hid htv
             have u1 : Upd (one sb) _ w3 := u
             clear hst htv u
             have HU3 := Lib.hid u1
             have HRS3 := Lib.hid (HD1.out.rs.upd (u1.mono (fun _ _ h => .inl h) : Upd (two sb mb) _ w3) HD1.out.sepS.1 HD1.out.sepS.2.1 HD1.out.sepS.2.2)
             have HE3 := Lib.hid (ext_then HE1.out u1 (fun k hk => HD.out.lo k (.inl hk)))
             have HFB3 := Lib.hid (u1.blk (Ext.blk HDR.out HFB.out) (fun e => by have h := HFL.out.1; have : fb = sb := e; omega))
             have HQ3 := Lib.hid (u1.blk (Ext.blk HDR.out HQ1.out) (fun e => HW.out sb (.inl rfl) e.symm))
             have HG3 := Lib.hid (u1.blk (Ext.blk HDR.out HG1.out) (fun e => by have h := HFL.out.2.1; have : g = sb := e; omega))
             clear u1)
          | (go_at_call 33
             refine (HCR.out _ HRS3.out HE3.out.size (HRD0.out.ext HE3.out)).mono ?_
             rintro e w4 ⟨rfl, rtv2, hrs, hrv, u⟩
             have HRS4 := Lib.hid hrs
             have HRV4 := Lib.hid hrv
             have u2 : Upd (one rb) w3 w4 := u
             clear hrs hrv u
             have HU4 := Lib.hid u2
             have HE4 := Lib.hid (ext_then HE3.out u2 (fun k hk => HD.out.lo k (.inr (.inr (.inl hk)))))
             have HST4 := Lib.hid (HST3.out.upd u2 (fun e => Duo.sepR HST3.out HRS3.out sb (.inl rfl) (.inl e)) (fun e => Duo.sepR HST3.out HRS3.out mb (.inr (.inl rfl)) (.inl e)) (fun k hk e => Duo.sepR HST3.out HRS3.out k (.inr (.inr hk)) (.inl e)))
             have HFB4 := Lib.hid (u2.blk HFB3.out (fun e => by have h := HFL.out.1; have h2 := HFL.out.2.2; have : fb = rb := e; omega))
             have HQ4 := Lib.hid (u2.blk HQ3.out (fun e => HW.out rb (.inr (.inr (.inl rfl))) e.symm))
             have HG4 := Lib.hid (u2.blk HG3.out (fun e => by have h := HFL.out.2.1; have h2 := HFL.out.2.2; have : g = rb := e; omega))
             clear u2)
          | (go_at_call 8
             refine (same_any (v := .nilIface) (x := none) (HG.out.ext HE4.out) rfl 0 0).mono ?_
             rintro e w5 ⟨rfl, u5⟩
             have HU5 := Lib.hid u5
             have HFB5 := Lib.hid (Ext.blk u5 HFB4.out)
             have HQ5 := Lib.hid (Ext.blk u5 HQ4.out)
             have HG5 := Lib.hid (Ext.blk u5 HG4.out)
             rw [show sameB none 0 0 = true from by decide]
             clear u5)
          | (go_at_call 9
             refine (leftI_any HG5.out (HRD0.out.ext (HE4.out.trans HU5.out)) cap (by have := HZ.out; omega)).mono ?_
             rintro e w6 ⟨rfl, u6⟩
             have HU6 := Lib.hid u6
             have HFB6 := Lib.hid (Ext.blk u6 HFB5.out)
             have HQ6 := Lib.hid (Ext.blk u6 HQ5.out)
             have HG6 := Lib.hid (Ext.blk u6 HG5.out)
             clear u6)))
      go_wp2_with fail
      go_loopw [14] (fun iv wr => WipeRel zs.length g w6 iv wr) (fun iv _ => zs.length - (RowKit.intOf iv).toNat)
      case atStart => exact ⟨0, _, rfl, Nat.zero_le _, HG6.out, by simp [twAll], Upd.refl _ _⟩
      case round =>
        obtain ⟨k, cs, rfl, hk, hcs, hsz, hU⟩ := hrel
        have HCS := Lib.hid hcs
        have HSC := Lib.hid hsz
        have HUR := Lib.hid hU
        have e0 : wr.cell? ⟨fb, 0, none⟩ = some (.slice (some ⟨g, 0, none⟩) zs.length (zs.length + 1)) := cell_of_blk (hU.blk HFB6.out (fun e => HFG.out e)) 0
        clear hcs hsz hU
        by_cases hlt : k < zs.length
        · have hki : (k : Int) < zs.length := by omega
          have hkb : k < 1099511627776 := by have := HZ.out; omega
          have cg : wr.cell? ⟨g, k, none⟩ = some (cs[k]'(by have := HSC.out; omega)) := by rw [cell_of_blk HCS.out]; simp [show k < cs.size from by have := HSC.out; omega]
          have fg := free_of_blk HCS.out k
          have HS2 := Lib.hid (blk_set HCS.out k (.int .i64 ((k : Int) + 1)))
          have HU2 := Lib.hid (HUR.out.setCell (p := ⟨g, k, none⟩) (.inr rfl) (.int .i64 ((k : Int) + 1)))
          generalize (cs[k]'(by have := HSC.out; omega)) = old at *
          go_wp2_with fail
          go_roundw
          case rel => exact ⟨k + 1, _, by simp, by omega, HS2.out, by simpa using HSC.out, HU2.out⟩
          case measure => simp [RowKit.intOf] <;> omega
        · obtain rfl : k = zs.length := by omega
          have hki : ¬ (zs.length : Int) < zs.length := by omega
          go_wp2_with fail
          go_ret
          have hy : y = x.take zs c := by rw [← HY.out, hm]; rfl
          subst hy
          have hU : Upd (fpD sb mb rb tv av rtv) w w6 := ((((Upd.ext (HXW.out.trans HDR.out) (fpD sb mb rb tv av rtv)).then (HU3.out.mono (fun _ _ h => .inl h) : Upd (fpD sb mb rb tv av rtv) _ w3) (fun _ _ h => h)).then (HU4.out.mono (fun _ _ h => .inr (.inr (.inl h))) : Upd (fpD sb mb rb tv av rtv) w3 w4) (fun _ _ h => h)).thenExt HU5.out).thenExt HU6.out
          have hUr : Upd (fpD sb mb rb tv av rtv) w wr := hU.then HUR.out (fun k hk e => by
            have : k = g := e
            have := HSZ.out.1
            omega)
          have hs3 : W1.heap.size ≤ w3.heap.size := HU3.out.size
          refine ⟨rfl, tv2, av, rtv2, btv, L, C, N, Duo.upd ⟨(HST4.out.ext HU5.out).ext HU6.out, (HRS4.out.ext HU5.out).ext HU6.out, fun k hk => ?_⟩ HUR.out (fun k hk e => ?_), fun k hk => ?_, HK.out.upd hUr (fun k h1 h2 => duo_book HD.out HK.out h2 h1), Nat.le_succ _, hUr.mono (fun _ _ h => .inl h)⟩
          · have h0 := HE.out.size
            have h1 := HSZ.out.2.2
            rcases hk with h | h | h | h | h | h
            · exact HD.out.lo k (.inl h)
            · exact HD.out.lo k (.inr (.inl h))
            · exact HD.out.lo k (.inr (.inr (.inl h)))
            · have h2 : W1.heap.size ≤ k := HTV3.out k h
              omega
            · exact HD.out.lo k (.inr (.inr (.inr (.inr (.inl h)))))
            · have h2 := HRV4.out k h
              omega
          · have e1 : k = g := e
            have h1 := HSZ.out.2.1
            rcases hk with h | h | h | h | h | h
            · exact HGB.out k (.inl h) e1
            · exact HGB.out k (.inr (.inl h)) e1
            · exact HGB.out k (.inr (.inr (.inl h))) e1
            · have h2 : W1.heap.size ≤ k := HTV3.out k h
              omega
            · exact HGB.out k (.inr (.inr (.inr (.inr (.inl h))))) e1
            · have h2 := HRV4.out k h
              omega
          · have h1 := HSZ.out.2.2
            rcases hk with h | h | h | h | h | h
            · exact .inl (.inl h)
            · exact .inl (.inr (.inl h))
            · exact .inl (.inr (.inr (.inl h)))
            · have h2 : W1.heap.size ≤ k := HTV3.out k h
              exact .inr (by omega)
            · exact .inl (.inr (.inr (.inr (.inr (.inl h)))))
            · have h2 := HRV4.out k h
              exact .inr (by omega)
    | false =>
      have CS := restart_no (HG.out.ext HE1.out) HD1.out.st (some ⟨g, 0, none⟩) zs (zs.length + 1) c (twAll_rds (Ext.blk HDR.out HG1.out)).1 (by have := HZ.out; omega) hm
      have HCR := Lib.hid (fun (w3 : World) (h : RStAt w0.heap.size w3 rb av rtv x) (hz : w0.heap.size ≤ w3.heap.size) (hr : RdsAt w3 a zs) => rrestart_no h a zs cap c hr (by have := HZ.out; omega) hm)
      go_wp2_with fail
      go_region_held3 (fun w' => w'.cell? ⟨fb, 0, none⟩ = some (.slice (some ⟨g, 0, none⟩) zs.length (zs.length + 1)) ∧ w'.cell? ⟨fb, 1, none⟩ = some (.int .i64 c) ∧ w'.cell? ⟨q, 3, none⟩ = some (.slice a zs.length cap) ∧ w'.cell? ⟨q, 4, none⟩ = some (.int .i64 c))
        (first
          | exact ⟨f0, f1, q3, q4⟩
          | exact ⟨cell_of_blk HFB3.out 0, cell_of_blk HFB3.out 1, cell_of_blk HQ3.out 3, cell_of_blk HQ3.out 4⟩
          | exact ⟨cell_of_blk HFB4.out 0, cell_of_blk HFB4.out 1, cell_of_blk HQ4.out 3, cell_of_blk HQ4.out 4⟩
          | exact ⟨cell_of_blk HFB5.out 0, cell_of_blk HFB5.out 1, cell_of_blk HQ5.out 3, cell_of_blk HQ5.out 4⟩
          | exact ⟨cell_of_blk HFB6.out 0, cell_of_blk HFB6.out 1, cell_of_blk HQ6.out 3, cell_of_blk HQ6.out 4⟩)
        ((first
          | (go_at_call 26
             refine CS.mono ?_
             rintro e w3 ⟨rfl, u⟩
             have HST3 := Lib.hid (HD1.out.st.ext u)
             have u1 : Upd (one sb) _ w3 := Upd.ext u (one sb)
             clear u
             have HU3 := Lib.hid u1
             have HRS3 := Lib.hid (HD1.out.rs.upd (u1.mono (fun _ _ h => .inl h) : Upd (two sb mb) _ w3) HD1.out.sepS.1 HD1.out.sepS.2.1 HD1.out.sepS.2.2)
             have HE3 := Lib.hid (ext_then HE1.out u1 (fun k hk => HD.out.lo k (.inl hk)))
             have HFB3 := Lib.hid (u1.blk (Ext.blk HDR.out HFB.out) (fun e => by have h := HFL.out.1; have : fb = sb := e; omega))
             have HQ3 := Lib.hid (u1.blk (Ext.blk HDR.out HQ1.out) (fun e => HW.out sb (.inl rfl) e.symm))
             have HG3 := Lib.hid (u1.blk (Ext.blk HDR.out HG1.out) (fun e => by have h := HFL.out.2.1; have : g = sb := e; omega))
             clear u1)
          | (go_at_call 33
             refine (HCR.out _ HRS3.out HE3.out.size (HRD0.out.ext HE3.out)).mono ?_
             rintro e w4 ⟨rfl, u⟩
             have HRS4 := Lib.hid (HRS3.out.ext u)
             have u2 : Upd (one rb) w3 w4 := Upd.ext u (one rb)
             clear u
             have HU4 := Lib.hid u2
             have HE4 := Lib.hid (ext_then HE3.out u2 (fun k hk => HD.out.lo k (.inr (.inr (.inl hk)))))
             have HST4 := Lib.hid (HST3.out.upd u2 (fun e => Duo.sepR HST3.out HRS3.out sb (.inl rfl) (.inl e)) (fun e => Duo.sepR HST3.out HRS3.out mb (.inr (.inl rfl)) (.inl e)) (fun k hk e => Duo.sepR HST3.out HRS3.out k (.inr (.inr hk)) (.inl e)))
             have HFB4 := Lib.hid (u2.blk HFB3.out (fun e => by have h := HFL.out.1; have h2 := HFL.out.2.2; have : fb = rb := e; omega))
             have HQ4 := Lib.hid (u2.blk HQ3.out (fun e => HW.out rb (.inr (.inr (.inl rfl))) e.symm))
             have HG4 := Lib.hid (u2.blk HG3.out (fun e => by have h := HFL.out.2.1; have h2 := HFL.out.2.2; have : g = rb := e; omega))
             clear u2)
          | (go_at_call 8
             refine (same_any (v := (sv se 2)) (x := (some (2, none))) (HG.out.ext HE4.out) ⟨by decide, by decide, rfl⟩ 2 (-1)).mono ?_
             rintro e w5 ⟨rfl, u5⟩
             have HU5 := Lib.hid u5
             have HFB5 := Lib.hid (Ext.blk u5 HFB4.out)
             have HQ5 := Lib.hid (Ext.blk u5 HQ4.out)
             have HG5 := Lib.hid (Ext.blk u5 HG4.out)
             rw [show sameB (some (2, none)) 2 (-1) = true from by decide]
             clear u5)
          | (go_at_call 9
             refine (leftI_any HG5.out (HRD0.out.ext (HE4.out.trans HU5.out)) cap (by have := HZ.out; omega)).mono ?_
             rintro e w6 ⟨rfl, u6⟩
             have HU6 := Lib.hid u6
             have HFB6 := Lib.hid (Ext.blk u6 HFB5.out)
             have HQ6 := Lib.hid (Ext.blk u6 HQ5.out)
             have HG6 := Lib.hid (Ext.blk u6 HG5.out)
             clear u6)))
      go_wp2_with fail
      go_loopw [14] (fun iv wr => WipeRel zs.length g w6 iv wr) (fun iv _ => zs.length - (RowKit.intOf iv).toNat)
      case atStart => exact ⟨0, _, rfl, Nat.zero_le _, HG6.out, by simp [twAll], Upd.refl _ _⟩
      case round =>
        obtain ⟨k, cs, rfl, hk, hcs, hsz, hU⟩ := hrel
        have HCS := Lib.hid hcs
        have HSC := Lib.hid hsz
        have HUR := Lib.hid hU
        have e0 : wr.cell? ⟨fb, 0, none⟩ = some (.slice (some ⟨g, 0, none⟩) zs.length (zs.length + 1)) := cell_of_blk (hU.blk HFB6.out (fun e => HFG.out e)) 0
        clear hcs hsz hU
        by_cases hlt : k < zs.length
        · have hki : (k : Int) < zs.length := by omega
          have hkb : k < 1099511627776 := by have := HZ.out; omega
          have cg : wr.cell? ⟨g, k, none⟩ = some (cs[k]'(by have := HSC.out; omega)) := by rw [cell_of_blk HCS.out]; simp [show k < cs.size from by have := HSC.out; omega]
          have fg := free_of_blk HCS.out k
          have HS2 := Lib.hid (blk_set HCS.out k (.int .i64 ((k : Int) + 1)))
          have HU2 := Lib.hid (HUR.out.setCell (p := ⟨g, k, none⟩) (.inr rfl) (.int .i64 ((k : Int) + 1)))
          generalize (cs[k]'(by have := HSC.out; omega)) = old at *
          go_wp2_with fail
          go_roundw
          case rel => exact ⟨k + 1, _, by simp, by omega, HS2.out, by simpa using HSC.out, HU2.out⟩
          case measure => simp [RowKit.intOf] <;> omega
        · obtain rfl : k = zs.length := by omega
          have hki : ¬ (zs.length : Int) < zs.length := by omega
          go_wp2_with fail
          go_ret
          have hy : y = x := by rw [← HY.out, hm]; rfl
          subst hy
          have hU : Upd (fpD sb mb rb tv av rtv) w w6 := ((((Upd.ext (HXW.out.trans HDR.out) (fpD sb mb rb tv av rtv)).then (HU3.out.mono (fun _ _ h => .inl h) : Upd (fpD sb mb rb tv av rtv) _ w3) (fun _ _ h => h)).then (HU4.out.mono (fun _ _ h => .inr (.inr (.inl h))) : Upd (fpD sb mb rb tv av rtv) w3 w4) (fun _ _ h => h)).thenExt HU5.out).thenExt HU6.out
          have hUr : Upd (fpD sb mb rb tv av rtv) w wr := hU.then HUR.out (fun k hk e => by
            have : k = g := e
            have := HSZ.out.1
            omega)
          have hs3 : W1.heap.size ≤ w3.heap.size := HU3.out.size
          refine ⟨rfl, tv, av, rtv, btv, L, C, N, Duo.upd ⟨(HST4.out.ext HU5.out).ext HU6.out, (HRS4.out.ext HU5.out).ext HU6.out, fun k hk => ?_⟩ HUR.out (fun k hk e => ?_), fun k hk => ?_, HK.out.upd hUr (fun k h1 h2 => duo_book HD.out HK.out h2 h1), Nat.le_succ _, hUr.mono (fun _ _ h => .inl h)⟩
          · exact HD.out.lo k hk
          · exact HGB.out k hk e
          · exact .inl hk
end Go.Proofs.YtdkhnkhflbefbaaGreatDoor
