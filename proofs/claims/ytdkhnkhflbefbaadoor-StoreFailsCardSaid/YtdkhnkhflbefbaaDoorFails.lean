/- The walk of StoreFails. PRINTED by wip/tools/gen_fails.py. -/
import Derived.Test.YtdkhnkhflbefbaaDoorFlPlain
namespace Go.Proofs.YtdkhnkhflbefbaaDoor
open Go.RowKit Go.Lib Go.Sort

set_option maxRecDepth 20000 in
set_option maxHeartbeats 32000000 in
theorem fails_any {B : Nat} {se : Nat → Addr} {w : World} (G : Genv B se w) {a ra sa : Option Addr} {ws : TxtL} {zs : List Int} {ss : List ByteArray} (h : WrsAt w a ws) (hp : ∀ x ∈ ws, x.1.size ≤ maxLen ∧ x.2.size ≤ maxLen) (hr : RdsAt w ra zs) (hs : TextsAt w sa ss) (cap rc sc : Nat) :
    Calls Tryd.prog 5 #[.slice a ws.length cap, .slice ra zs.length rc, .slice sa ss.length sc] w fun e w' => e = .returned (.bool true) ∧ Ext w w' := by
  have HG := Lib.hid G
  have HH := Lib.hid h
  have HP := Lib.hid hp
  have HRD := Lib.hid hr
  have HSS := Lib.hid hs
  have E0 := Lib.hid (Upd.refl none' w)
  clear h hp G hr hs
  obtain ⟨i0, hi0, hz0, hz1, hz2⟩ := info_parts info_write
  by_cases hlws : 200 < ws.length
  · have hli : (200 : Int) < ws.length := by omega
    have CA := alive12_any HG.out
    go_enter Tryd.func5, Tryd.ntmps5
    go_wp2_with fail
    refine CA.mono ?_
    rintro e wa ⟨rfl, ua⟩
    go_wp2_with fail
    go_ret
    exact ⟨rfl, ua⟩
  have hliws : ¬ (200 : Int) < ws.length := by omega
  have HLws := Lib.hid (show ws.length ≤ 200 by omega)
  clear hlws
  by_cases hlss : 200 < ss.length
  · have hli : (200 : Int) < ss.length := by omega
    have CA := alive12_any HG.out
    go_enter Tryd.func5, Tryd.ntmps5
    go_wp2_with fail
    refine CA.mono ?_
    rintro e wa ⟨rfl, ua⟩
    go_wp2_with fail
    go_ret
    exact ⟨rfl, ua⟩
  have hliss : ¬ (200 : Int) < ss.length := by omega
  have HLss := Lib.hid (show ss.length ≤ 200 by omega)
  clear hlss
  by_cases hlzs : 200 < zs.length
  · have hli : (200 : Int) < zs.length := by omega
    have CA := alive12_any HG.out
    go_enter Tryd.func5, Tryd.ntmps5
    go_wp2_with fail
    refine CA.mono ?_
    rintro e wa ⟨rfl, ua⟩
    go_wp2_with fail
    go_ret
    exact ⟨rfl, ua⟩
  have hlizs : ¬ (200 : Int) < zs.length := by omega
  have HLzs := Lib.hid (show zs.length ≤ 200 by omega)
  clear hlzs
  go_enter Tryd.func5, Tryd.ntmps5
  go_wp2_with fail
  go_loopw [7] (fun iv wr => RiseRel zs w iv wr) (fun iv _ => zs.length - (RowKit.intOf iv).toNat)
  case atStart => exact ⟨0, rfl, Nat.zero_le _, Int.le_refl _, rfl, E0.out⟩
  case round =>
    obtain ⟨k, rfl, hk, h0, hm, hX⟩ := hrel
    have HX := Lib.hid hX
    have HM := Lib.hid hm
    clear hX hm
    by_cases hlt : k < zs.length
    · have hki : (k : Int) < zs.length := by omega
      have hk200 : k < 200 := by have := HLzs.out; omega
      obtain ⟨g, off, rfl, c0⟩ := cell_int_at (HRD.out.ext HX.out) k hlt
      have HNO : Hid (zs[k] ≤ lastR zs k → mayR zs = false) := Lib.hid (rise_no hlt HM.out)
      have HYES : Hid (¬ zs[k] ≤ lastR zs k → mayFrom (lastR zs (k + 1)) (zs.drop (k + 1)) = mayR zs) := Lib.hid (rise_yes hlt HM.out)
      have HLS := Lib.hid (lastR_succ zs k hlt)
      have HCN : Hid (∀ q, mayR zs = false → _) := Lib.hid (fun q hno => new_no (HG.out.ext (HX.out.drewN q)) (some ⟨g, off, none⟩) zs rc 0 (HRD.out.ext (HX.out.drewN q)) (by have := HLzs.out; omega) hno)
      cases k with
      | zero =>
        rw [lastR_zero] at HNO HYES
        obtain ⟨x, hx⟩ : ∃ x, zs[0] = x := ⟨_, rfl⟩
        rw [hx] at c0 HNO HYES HLS
        clear hx
        simp only [Nat.add_zero] at c0
        by_cases hx1 : x < 1
        · have HBAD := Lib.hid (HNO.out (by omega))
          have hd : decide (x < 1) = true := decide_eq_true hx1
          clear hx1
          go_wp2_with fail
          go_quiet (fail)
          go_wp2_with fail
          refine (HCN.out _ HBAD.out).mono ?_
          rintro e w2 ⟨rfl, u⟩
          have HX2 := Lib.hid ((HX.out.drewN _).trans u)
          clear u
          have CI := is0_any (HG.out.ext HX2.out) (v := sv se 2) (x := some (2, none)) ⟨by decide, by decide, rfl⟩ 2
          rw [show (codeOf (some (2, none)) == 2 && (!placed (some (2, none)) || placeOf (some (2, none)) == 0)) = true from rfl] at CI
          go_wp2_with fail
          refine CI.mono ?_
          rintro e w3 ⟨rfl, ui⟩
          have HX3 := Lib.hid (HX2.out.trans ui)
          clear ui CI
          have CA := alive12_any (HG.out.ext HX3.out)
          go_wp2_with fail
          refine CA.mono ?_
          rintro e wa ⟨rfl, ua⟩
          have HXA := Lib.hid (Upd.trans HX3.out ua)
          clear CA ua
          go_wp2_with fail
          go_ret
          exact ⟨rfl, HXA.out⟩
        · have HNX := Lib.hid (HYES.out (by omega))
          have HX1 := Lib.hid hx1
          have hd : decide (x < 1) = false := decide_eq_false hx1
          clear hx1
          go_wp2_with fail
          go_quiet (fail)
          go_wp2_with fail
          go_roundw
          case rel => exact ⟨1, by simp, by omega, by rw [show lastR zs (1) = x from HLS.out]; have := HX1.out; omega, HNX.out, HX.out.drewN _⟩
          case measure => simp [RowKit.intOf] <;> omega
      | succ j =>
        have hjl : j < zs.length := by omega
        obtain ⟨g2, off2, hg2, c1⟩ := cell_int_at (HRD.out.ext HX.out) j hjl
        obtain ⟨rfl, rfl⟩ : g = g2 ∧ off = off2 := by simpa using hg2
        rw [lastR_succ zs j hjl] at HNO HYES h0
        obtain ⟨x, hx⟩ : ∃ x, zs[j + 1] = x := ⟨_, rfl⟩
        obtain ⟨y, hy⟩ : ∃ y, zs[j] = y := ⟨_, rfl⟩
        rw [hx] at c0 HNO HYES HLS
        rw [hy] at c1 HNO HYES h0
        have hw1 : IntKind.i64.wrap (((j + 1 : Nat) : Int) - 1) = j := (IntWalk.i64_in _ (by omega)).trans (by omega)
        have hjp : (0 : Int) < ((j + 1 : Nat) : Int) := by omega
        have hji : (j : Int) < zs.length := by omega
        clear hx hy hg2
        by_cases hx1 : x < 1
        · have HBAD := Lib.hid (HNO.out (by omega))
          have hd : decide (x < 1) = true := decide_eq_true hx1
          clear hx1
          go_wp2_with fail
          go_quiet (fail)
          go_wp2_with fail
          refine (HCN.out _ HBAD.out).mono ?_
          rintro e w2 ⟨rfl, u⟩
          have HX2 := Lib.hid ((HX.out.drewN _).trans u)
          clear u
          have CI := is0_any (HG.out.ext HX2.out) (v := sv se 2) (x := some (2, none)) ⟨by decide, by decide, rfl⟩ 2
          rw [show (codeOf (some (2, none)) == 2 && (!placed (some (2, none)) || placeOf (some (2, none)) == 0)) = true from rfl] at CI
          go_wp2_with fail
          refine CI.mono ?_
          rintro e w3 ⟨rfl, ui⟩
          have HX3 := Lib.hid (HX2.out.trans ui)
          clear ui CI
          have CA := alive12_any (HG.out.ext HX3.out)
          go_wp2_with fail
          refine CA.mono ?_
          rintro e wa ⟨rfl, ua⟩
          have HXA := Lib.hid (Upd.trans HX3.out ua)
          clear CA ua
          go_wp2_with fail
          go_ret
          exact ⟨rfl, HXA.out⟩
        · have HX1 := Lib.hid hx1
          have hd : decide (x < 1) = false := decide_eq_false hx1
          clear hx1
          by_cases hx2 : x ≤ y
          · have HBAD := Lib.hid (HNO.out hx2)
            have hd2 : decide (x ≤ y) = true := decide_eq_true hx2
            clear hx2
            go_wp2_with fail
            go_quiet (fail)
            go_wp2_with fail
            refine (HCN.out _ HBAD.out).mono ?_
            rintro e w2 ⟨rfl, u⟩
            have HX2 := Lib.hid ((HX.out.drewN _).trans u)
            clear u
            have CI := is0_any (HG.out.ext HX2.out) (v := sv se 2) (x := some (2, none)) ⟨by decide, by decide, rfl⟩ 2
            rw [show (codeOf (some (2, none)) == 2 && (!placed (some (2, none)) || placeOf (some (2, none)) == 0)) = true from rfl] at CI
            go_wp2_with fail
            refine CI.mono ?_
            rintro e w3 ⟨rfl, ui⟩
            have HX3 := Lib.hid (HX2.out.trans ui)
            clear ui CI
            have CA := alive12_any (HG.out.ext HX3.out)
            go_wp2_with fail
            refine CA.mono ?_
            rintro e wa ⟨rfl, ua⟩
            have HXA := Lib.hid (Upd.trans HX3.out ua)
            clear CA ua
            go_wp2_with fail
            go_ret
            exact ⟨rfl, HXA.out⟩
          · have HNX := Lib.hid (HYES.out hx2)
            have hd2 : decide (x ≤ y) = false := decide_eq_false hx2
            clear hx2
            go_wp2_with fail
            go_quiet (fail)
            go_wp2_with fail
            go_roundw
            case rel => exact ⟨j + 2, by simp; omega, by omega, by rw [show lastR zs (j + 2) = x from HLS.out]; have := HX1.out; omega, HNX.out, HX.out.drewN _⟩
            case measure => simp [RowKit.intOf] <;> omega
    · obtain rfl : k = zs.length := by omega
      have hki : ¬ (zs.length : Int) < zs.length := by omega
      have CN := new_ok wr ra zs rc 0 (HRD.out.ext HX.out) (by have := HLzs.out; omega) (rise_all HM.out)
      clear HM h0 hk E0
      generalize wr = W at *
      go_wp2_with fail
      refine CN.mono ?_
      rintro e w1 ⟨b, mb, tv, rfl, hst, hb, hm, u⟩
      have HST := Lib.hid hst
      have HBB := Lib.hid (show B ≤ b ∧ B ≤ mb ∧ w.heap.size ≤ b ∧ w.heap.size ≤ mb from by have := HG.out.size; have := HX.out.size; omega)
      have HX1 := Lib.hid (HX.out.trans u)
      clear hst hb hm u CN HX hki hlt
      go_wp2_with fail
      go_loopw [12, 13] (fun kv iv w2 => FlRel ws zs b mb tv w kv iv w2) (fun _ iv _ => ws.length - (RowKit.intOf iv).toNat)
      case atStart => exact ⟨0, rfl, Nat.zero_le _, ⟨by simp [keptL, wrCells], .inl ⟨rfl, by simp [keptL]⟩⟩, HST.out, HX1.out⟩
      case round =>
        clear HST HX1
        obtain ⟨k, rfl, hk, hrow, hst, hX⟩ := hrel
        have HROW := Lib.hid hrow
        have HST := Lib.hid hst
        have HX := Lib.hid hX
        clear hrow hst hX
        generalize wr = W at *
        by_cases hlt : k < ws.length
        · have hki : (k : Int) < ws.length := by omega
          have hk200 : k < 200 := by have := HLws.out; omega
          obtain ⟨g, off, rfl, c0, c1⟩ := HH.out.ext HX.out k _ (List.getElem?_eq_getElem hlt)
          have HKY : Hid (nameOk ws[k].1 = true → keptL ws (k + 1) = keptL ws k ++ [ws[k]]) := Lib.hid (fun hn => kept_yes ws k hlt hn)
          have HKN : Hid (nameOk ws[k].1 = false → keptL ws (k + 1) = keptL ws k) := Lib.hid (fun hn => kept_no ws k hlt hn)
          have HAT := Lib.hid (List.getElem?_eq_getElem hlt)
          have HPP := Lib.hid (HP.out ws[k] (List.getElem_mem hlt))
          have HKL := Lib.hid (show (keptL ws k).length ≤ k ∧ k ≤ 200 from ⟨keptL_len ws k, by omega⟩)
          have HCM : Hid (∀ q, Calls _ _ _ q _) := Lib.hid (fun q => (may12_any ws[k].1 HPP.out.1 q).mono fun e w' h => (⟨h.1, h.2.symm⟩ : e = .returned (.bool (nameOk ws[k].1)) ∧ w' = q))
          have HTL := Lib.hid (show (flSt zs (keptL ws k) 0).nw < 4611686018427387904 ∧ (flSt zs (keptL ws k) 0).texts.length < 4611686018427387904 from ⟨by show (keptL ws k).length < _; have := HKL.out; omega, by show (putAll _).length < _; have := putN_len (keptL ws k) (keptL ws k).length; have := HKL.out; unfold putAll; omega⟩)
          generalize ws[k] = p at *
          go_wp2_with fail
          go_still_tail 11, (by kernel_rfl)
          have ED : Ext W W.drew := (Upd.refl none' W).drew
          have CP := put_any (HG.out.ext (HX.out.trans ED)) (HST.out.ext ED) HBB.out.1 HBB.out.2.1 p.1 p.2 HPP.out.1 HPP.out.2 HTL.out.1 HTL.out.2
          have HED := Lib.hid (HX.out.trans ED)
          have HRD2 := Lib.hid (rows_upd HROW.out ED (fun _ _ => id))
          have HAP := Lib.hid (fun (q : Nat) hq => HST.out.apartW HROW.out (g := q) hq)
          clear ED
          generalize hkl : keptL ws k = L at *
          have HLK := Lib.hid hkl
          clear hkl
          by_cases hn : nameOk p.1 = true
          · have HLL := Lib.hid (HKY.out hn)
            rw [fl_put_yes zs L 0 p hn] at CP
            rw [hn] at HCM
            clear hn HKY HKN
            go_wp2_with fail
            refine CP.mono ?_
            rintro e w3 ⟨he, hst3, u3⟩
            simp only [evS] at he
            subst he
            have HX3 := Lib.hid (HED.out.then u3 (fun q hq e => by have := HBB.out; rcases e with e | e <;> omega))
            have HST3 := Lib.hid hst3
            have HRW3 := Lib.hid (rows_upd HRD2.out u3 (fun q hq e => by have := HAP.out q hq; rcases e with e | e <;> omega))
            obtain ⟨g2, off2, e2, c0, c1⟩ := HH.out.ext HX3.out k p HAT.out
            obtain ⟨rfl, rfl⟩ : g = g2 ∧ off = off2 := by simpa using e2
            clear hst3 u3 CP HED HRD2 HST HROW e2
            go_wp2_with fail
            go_still_tail 14, (by kernel_rfl)
            still_call (HCM.out _)
            repeat still_step
            refine wpStill_nil ?_
            have EA : Ext w3 ((w3.alloc (.cells #[.string p.1, .string p.2] 49)).drew) := ((Upd.refl none' w3).alloc _).drew
            have HR4 := Lib.hid (rows_upd HRW3.out EA (fun _ _ => id))
            have HX4 := Lib.hid (HX3.out.trans EA)
            have HST4 := Lib.hid (HST3.out.ext EA)
            have HN4 := Lib.hid (write_new w3 p.1 p.2)
            have H1 := Lib.hid (write_ones p.1 p.2)
            have HM := Lib.hid (show L.length + 1 ≤ maxLen ∧ (L.length + 1) * 32 ≤ 140737488355328 by have := HKL.out; unfold maxLen; omega)
            have HB4 : Hid (w.heap.size ≤ ((w3.alloc (.cells #[.string p.1, .string p.2] 49)).drew).heap.size) := Lib.hid HX4.out.size
            have HAP4 := Lib.hid (fun (q : Nat) hq => HST4.out.apartW HR4.out (g := q) hq)
            clear EA HRW3 HST3 HX3
            go_wp2_with (at_builtin; refine wpList_app rfl _ _ 44 rfl w.heap.size 49 i0 _ 2 32 Tryd.underlying44 hi0 hz0 hz1 hz2 rfl (by decide) _ _ _ rfl HR4.out ⟨w3.heap.size, 0, none⟩ 1 1 [.string p.1, .string p.2] rfl rfl HN4.out H1.out HM.out.1 HM.out.2 HB4.out ?_; intro v' w5 hown' hg5 hbl; go_frame)
            have HX5 := Lib.hid (HX4.out.grown hg5 (fun q hq => .inl (by rw [hq] at hbl; exact (HR4.out.lt q hq).1)))
            have U5 := (Upd.refl (fun q => _ = some q) _).grown hg5 (fun q hq => .inr hq)
            have HST5 := Lib.hid (HST4.out.upd U5 (fun e => (HAP4.out _ e).1 rfl) (fun e => (HAP4.out _ e).2.1 rfl) (fun q hq e => (HAP4.out _ e).2.2 hq))
            clear U5
            go_roundw
            case rel => exact ⟨k + 1, by simp, by omega, by rw [HLL.out, wrCells_snoc]; simpa using hown', by rw [HLL.out]; exact HST5.out, HX5.out⟩
            case measure => simp [RowKit.intOf] <;> omega
          · rw [Bool.not_eq_true] at hn
            have HLL := Lib.hid (HKN.out hn)
            rw [fl_put_no zs L 0 p.1 p.2 hn] at CP
            rw [hn] at HCM
            clear hn HKY HKN
            go_wp2_with fail
            refine CP.mono ?_
            rintro e w3 ⟨he, hst3, u3⟩
            simp only [evS] at he
            subst he
            have HX3 := Lib.hid (HED.out.then u3 (fun q hq e => by have := HBB.out; rcases e with e | e <;> omega))
            have HST3 := Lib.hid hst3
            have HRW3 := Lib.hid (rows_upd HRD2.out u3 (fun q hq e => by have := HAP.out q hq; rcases e with e | e <;> omega))
            obtain ⟨g2, off2, e2, c0, c1⟩ := HH.out.ext HX3.out k p HAT.out
            obtain ⟨rfl, rfl⟩ : g = g2 ∧ off = off2 := by simpa using e2
            clear hst3 u3 CP HED HRD2 HST HROW e2
            go_wp2_with fail
            go_still_tail 14, (by kernel_rfl)
            still_call (HCM.out _)
            repeat still_step
            refine wpStill_nil ?_
            have EA : Ext w3 w3.drew := (Upd.refl none' w3).drew
            have HR4 := Lib.hid (rows_upd HRW3.out EA (fun _ _ => id))
            have HX4 := Lib.hid (HX3.out.trans EA)
            have HST4 := Lib.hid (HST3.out.ext EA)
            clear EA HRW3 HST3 HX3
            have CI := is0_any (HG.out.ext HX4.out) (v := sv se 2) (x := some (2, none)) ⟨by decide, by decide, rfl⟩ 2
            rw [show (codeOf (some (2, none)) == 2 && (!placed (some (2, none)) || placeOf (some (2, none)) == 0)) = true from rfl] at CI
            go_wp2_with fail
            refine CI.mono ?_
            rintro e w4 ⟨rfl, ui⟩
            have HX5 := Lib.hid (HX4.out.trans ui)
            have HST5 := Lib.hid (HST4.out.ext ui)
            have HR5 := Lib.hid (rows_upd HR4.out ui (fun _ _ => id))
            clear CI ui HX4 HST4 HR4
            go_wp2_with fail
            go_roundw
            case rel => exact ⟨k + 1, by simp, by omega, by rw [HLL.out]; exact HR5.out, by rw [HLL.out]; exact HST5.out, HX5.out⟩
            case measure => simp [RowKit.intOf] <;> omega
        · obtain rfl : k = ws.length := by omega
          have hki : ¬ (ws.length : Int) < ws.length := by omega
          generalize hkl : keptL ws ws.length = L at *
          have HKL := Lib.hid (show L.length ≤ 200 by have := keptL_len ws ws.length; rw [hkl] at this; have := HLws.out; omega)
          obtain ⟨ka, kc, rfl, hwr⟩ := wrs_of_own HROW.out
          have HWK := Lib.hid (fun (w2 : World) (u : Upd (one b) W w2) => wrs_of_own2 (rows_upd HROW.out u (fun q hq e => (HST.out.apartW HROW.out (g := q) hq).1 e)))
          clear hkl hwr HROW
          go_wp2_with fail
          go_loopw [15, 16] (fun nv iv w2 => FaRel L zs ss.length b mb tv W nv iv w2) (fun _ iv _ => ss.length - (RowKit.intOf iv).toNat)
          case atStart => exact ⟨0, 0, rfl, rfl, Nat.zero_le _, Nat.le_refl _, HST.out, Upd.refl _ _⟩
          case round =>
            clear HST
            obtain ⟨k, n, rfl, rfl, hk, hnk, hst, hU⟩ := hrel
            have HST := Lib.hid hst
            have HU := Lib.hid hU
            have HXW := HX
            have HX := Lib.hid (HX.out.then hU (fun q hq e => by have := HBB.out; have : q = b := e; omega))
            clear hst hU
            generalize wr = W3 at *
            by_cases hlt : k < ss.length
            · have hki : (k : Int) < ss.length := by omega
              have hk200 : k < 200 := by have := HLss.out; omega
              have hn200 : n < 200 := by omega
              obtain ⟨g, off, rfl, c0⟩ := text_at (HSS.out.later HX.out) k hlt
              have HAT := Lib.hid (List.getElem?_eq_getElem hlt)
              have HSZ := Lib.hid (HSS.out k _ (List.getElem?_eq_getElem hlt)).1
              have HCM : Hid (∀ q, Calls _ _ _ q _) := Lib.hid (fun q => (may12_any ss[k] HSZ.out q).mono fun e w' h => (⟨h.1, h.2.symm⟩ : e = .returned (.bool (nameOk ss[k])) ∧ w' = q))
              have CG := get_any (HG.out.ext HX.out) HST.out HBB.out.1 ss[k] HSZ.out (show n < _ by omega) (show zs.length < _ by have := HLzs.out; omega)
              generalize ss[k] = t at *
              by_cases hn : nameOk t = true
              · by_cases hf : ((n : Int) + 1) ∈ zs
                · rw [hn] at HCM
                  rw [fl_get_fail zs L n t hn hf] at CG
                  go_wp2_with fail
                  refine CG.mono ?_
                  rintro e w3 ⟨he, hst3, u3⟩
                  simp only [evS, Bool.false_eq_true, if_false, if_true, Option.getD, Option.isSome] at he
                  subst he
                  have HX3 := Lib.hid (HX.out.then u3 (fun q hq e => by have := HBB.out; have : q = b := e; omega))
                  have HST3 := Lib.hid hst3
                  have HU3 := Lib.hid (HU.out.trans u3)
                  obtain ⟨g2, off2, e2, c0⟩ := text_at (HSS.out.later HX3.out) k hlt
                  obtain ⟨rfl, rfl⟩ : g = g2 ∧ off = off2 := by simpa using e2
                  have HE := Lib.hid (show ss[k] = t from Option.some.inj ((List.getElem?_eq_getElem hlt).symm.trans HAT.out))
                  rw [HE.out] at c0
                  clear hst3 u3 CG HST HU HX e2
                  go_wp2_with fail
                  refine (HCM.out _).mono ?_
                  rintro e w4 ⟨rfl, rfl⟩
                  have HF := Lib.hid hf
                  clear hf c0 hn
                  go_wp2_with fail
                  go_loopw [19, 20] (fun fv jv w5 => FhRel zs ((n : Int) + 1) w4 fv jv w5) (fun _ jv _ => zs.length - (RowKit.intOf jv).toNat)
                  case atStart => exact ⟨0, false, rfl, rfl, by simp, Nat.zero_le _, Upd.refl _ _⟩
                  case round =>
                    obtain ⟨j, c, rfl, rfl, hc, hj, hX4⟩ := hrel
                    have HX4 := Lib.hid hX4
                    clear hX4
                    generalize wr = W6 at *
                    by_cases hjl : j < zs.length
                    · have hji : (j : Int) < zs.length := by omega
                      have hj200 : j < 200 := by have := HLzs.out; omega
                      obtain ⟨g3, off3, rfl, cj⟩ := cell_int_at (HRD.out.ext (HX3.out.trans HX4.out)) j hjl
                      have HTH := Lib.hid (take_has zs ((n : Int) + 1) j hjl)
                      rw [hc] at HTH
                      clear hc
                      generalize zs[j] = x at *
                      cases c with
                      | true =>
                        go_wp2_with fail
                        go_roundw
                        case rel => exact ⟨j + 1, true, by simp, rfl, by rw [HTH.out]; rfl, by omega, HX4.out⟩
                        case measure => simp [RowKit.intOf] <;> omega
                      | false =>
                        cases hx : (x == (n : Int) + 1) with
                        | true =>
                          rw [hx] at HTH
                          go_wp2_with fail
                          go_roundw
                          case rel => exact ⟨j + 1, true, by simp, rfl, by rw [HTH.out]; rfl, by omega, HX4.out⟩
                          case measure => simp [RowKit.intOf] <;> omega
                        | false =>
                          rw [hx] at HTH
                          go_wp2_with fail
                          go_roundw
                          case rel => exact ⟨j + 1, false, by simp, rfl, by rw [HTH.out]; rfl, by omega, HX4.out⟩
                          case measure => simp [RowKit.intOf] <;> omega
                    · obtain rfl : j = zs.length := by omega
                      have hji : ¬ (zs.length : Int) < zs.length := by omega
                      rw [List.take_length, decide_eq_true HF.out] at hc
                      subst hc
                      have HX6 := Lib.hid (HX3.out.trans HX4.out)
                      have HST6 := Lib.hid (HST3.out.ext HX4.out)
                      have HU6 := Lib.hid (HU3.out.thenExt HX4.out)
                      obtain ⟨g2, off2, e2, c0⟩ := text_at (HSS.out.later HX6.out) k hlt
                      obtain ⟨rfl, rfl⟩ : g = g2 ∧ off = off2 := by simpa using e2
                      rw [HE.out] at c0
                      have CL := lies_any (HWK.out _ HU6.out) kc L.length t (Nat.le_refl _) HKL.out
                      obtain ⟨r, hr⟩ : ∃ r, lieN L L.length t = r := ⟨_, rfl⟩
                      rw [hr] at CL
                      clear hr
                      simp only [lieV] at CL
                      generalize r.getD ⟨#[]⟩ = rs at *
                      generalize r.isSome = ro at *
                      go_wp2_with fail
                      refine CL.mono ?_
                      rintro e w7 ⟨rfl, rfl⟩
                      clear CL
                      have CI := is0_any (HG.out.ext HX6.out) (v := sv se 7) (x := some (7, none)) ⟨by decide, by decide, rfl⟩ 7
                      rw [show (codeOf (some (7, none)) == 7 && (!placed (some (7, none)) || placeOf (some (7, none)) == 0)) = true from rfl] at CI
                      go_wp2_with fail
                      refine CI.mono ?_
                      rintro e w7 ⟨rfl, ui⟩
                      have HX7 := Lib.hid (HX6.out.trans ui)
                      have HST7 := Lib.hid (HST6.out.ext ui)
                      have HU7 := Lib.hid (HU6.out.thenExt ui)
                      clear CI ui HX6 HST6 HU6
                      have CC : Calls _ _ _ _ (fun e w' => e = .returned (.tuple #[.int .i64 ((n : Int) + 1), .int .i64 (L.length : Nat)]) ∧ Ext _ w') := counts_any HST7.out
                      go_wp2_with fail
                      refine CC.mono ?_
                      rintro e w8 ⟨rfl, u8⟩
                      have HX8 := Lib.hid (HX7.out.trans u8)
                      have HST8 := Lib.hid (HST7.out.ext u8)
                      have HU8 := Lib.hid (HU7.out.thenExt u8)
                      clear u8 CC HX7 HST7 HU7
                      have CD : Calls _ _ _ _ (fun e w' => e = .returned (.bool false) ∧ Ext _ w') := dead_any HST8.out
                      go_wp2_with fail
                      refine CD.mono ?_
                      rintro e w9 ⟨rfl, u9⟩
                      have HX9 := Lib.hid (HX8.out.trans u9)
                      have HST9 := Lib.hid (HST8.out.ext u9)
                      have HU9 := Lib.hid (HU8.out.thenExt u9)
                      clear u9 CD HX8 HST8 HU8
                      go_wp2_with fail
                      go_roundw
                      case rel => exact ⟨k + 1, n + 1, by simp, by simp, by omega, by omega, HST9.out, HU9.out⟩
                      case measure => simp [RowKit.intOf] <;> omega
                · obtain ⟨r, hr⟩ : ∃ r, lieN L L.length t = r := ⟨_, rfl⟩
                  rw [fl_get_yes zs L n t hn hf r hr] at CG
                  cases r with
                  | none =>
                    have HR := Lib.hid hr
                    clear hr
                    rw [hn] at HCM
                    skip
                    go_wp2_with fail
                    refine CG.mono ?_
                    rintro e w3 ⟨he, hst3, u3⟩
                    simp only [evS, Bool.false_eq_true, if_false, if_true, Option.getD, Option.isSome] at he
                    subst he
                    have HX3 := Lib.hid (HX.out.then u3 (fun q hq e => by have := HBB.out; have : q = b := e; omega))
                    have HST3 := Lib.hid hst3
                    have HU3 := Lib.hid (HU.out.trans u3)
                    obtain ⟨g2, off2, e2, c0⟩ := text_at (HSS.out.later HX3.out) k hlt
                    obtain ⟨rfl, rfl⟩ : g = g2 ∧ off = off2 := by simpa using e2
                    have HE := Lib.hid (show ss[k] = t from Option.some.inj ((List.getElem?_eq_getElem hlt).symm.trans HAT.out))
                    rw [HE.out] at c0
                    clear hst3 u3 CG HST HU HX e2
                    go_wp2_with fail
                    refine (HCM.out _).mono ?_
                    rintro e w4 ⟨rfl, rfl⟩
                    have HF := Lib.hid hf
                    clear hf c0 hn
                    go_wp2_with fail
                    go_loopw [19, 20] (fun fv jv w5 => FhRel zs ((n : Int) + 1) w4 fv jv w5) (fun _ jv _ => zs.length - (RowKit.intOf jv).toNat)
                    case atStart => exact ⟨0, false, rfl, rfl, by simp, Nat.zero_le _, Upd.refl _ _⟩
                    case round =>
                      obtain ⟨j, c, rfl, rfl, hc, hj, hX4⟩ := hrel
                      have HX4 := Lib.hid hX4
                      clear hX4
                      generalize wr = W6 at *
                      by_cases hjl : j < zs.length
                      · have hji : (j : Int) < zs.length := by omega
                        have hj200 : j < 200 := by have := HLzs.out; omega
                        obtain ⟨g3, off3, rfl, cj⟩ := cell_int_at (HRD.out.ext (HX3.out.trans HX4.out)) j hjl
                        have HTH := Lib.hid (take_has zs ((n : Int) + 1) j hjl)
                        rw [hc] at HTH
                        clear hc
                        generalize zs[j] = x at *
                        cases c with
                        | true =>
                          go_wp2_with fail
                          go_roundw
                          case rel => exact ⟨j + 1, true, by simp, rfl, by rw [HTH.out]; rfl, by omega, HX4.out⟩
                          case measure => simp [RowKit.intOf] <;> omega
                        | false =>
                          cases hx : (x == (n : Int) + 1) with
                          | true =>
                            rw [hx] at HTH
                            go_wp2_with fail
                            go_roundw
                            case rel => exact ⟨j + 1, true, by simp, rfl, by rw [HTH.out]; rfl, by omega, HX4.out⟩
                            case measure => simp [RowKit.intOf] <;> omega
                          | false =>
                            rw [hx] at HTH
                            go_wp2_with fail
                            go_roundw
                            case rel => exact ⟨j + 1, false, by simp, rfl, by rw [HTH.out]; rfl, by omega, HX4.out⟩
                            case measure => simp [RowKit.intOf] <;> omega
                      · obtain rfl : j = zs.length := by omega
                        have hji : ¬ (zs.length : Int) < zs.length := by omega
                        rw [List.take_length, decide_eq_false HF.out] at hc
                        subst hc
                        have HX6 := Lib.hid (HX3.out.trans HX4.out)
                        have HST6 := Lib.hid (HST3.out.ext HX4.out)
                        have HU6 := Lib.hid (HU3.out.thenExt HX4.out)
                        obtain ⟨g2, off2, e2, c0⟩ := text_at (HSS.out.later HX6.out) k hlt
                        obtain ⟨rfl, rfl⟩ : g = g2 ∧ off = off2 := by simpa using e2
                        rw [HE.out] at c0
                        have CL := lies_any (HWK.out _ HU6.out) kc L.length t (Nat.le_refl _) HKL.out
                        rw [HR.out] at CL
                        simp only [lieV, Option.getD, Option.isSome] at CL
                        go_wp2_with fail
                        refine CL.mono ?_
                        rintro e w7 ⟨rfl, rfl⟩
                        clear CL
                        have CI := is0_any (HG.out.ext HX6.out) (v := sv se 6) (x := some (6, none)) ⟨by decide, by decide, rfl⟩ 6
                        rw [show (codeOf (some (6, none)) == 6 && (!placed (some (6, none)) || placeOf (some (6, none)) == 0)) = true from rfl] at CI
                        go_wp2_with fail
                        refine CI.mono ?_
                        rintro e w7 ⟨rfl, ui⟩
                        have HX7 := Lib.hid (HX6.out.trans ui)
                        have HST7 := Lib.hid (HST6.out.ext ui)
                        have HU7 := Lib.hid (HU6.out.thenExt ui)
                        clear CI ui HX6 HST6 HU6
                        have CC : Calls _ _ _ _ (fun e w' => e = .returned (.tuple #[.int .i64 ((n : Int) + 1), .int .i64 (L.length : Nat)]) ∧ Ext _ w') := counts_any HST7.out
                        go_wp2_with fail
                        refine CC.mono ?_
                        rintro e w8 ⟨rfl, u8⟩
                        have HX8 := Lib.hid (HX7.out.trans u8)
                        have HST8 := Lib.hid (HST7.out.ext u8)
                        have HU8 := Lib.hid (HU7.out.thenExt u8)
                        clear u8 CC HX7 HST7 HU7
                        have CD : Calls _ _ _ _ (fun e w' => e = .returned (.bool false) ∧ Ext _ w') := dead_any HST8.out
                        go_wp2_with fail
                        refine CD.mono ?_
                        rintro e w9 ⟨rfl, u9⟩
                        have HX9 := Lib.hid (HX8.out.trans u9)
                        have HST9 := Lib.hid (HST8.out.ext u9)
                        have HU9 := Lib.hid (HU8.out.thenExt u9)
                        clear u9 CD HX8 HST8 HU8
                        go_wp2_with fail
                        go_roundw
                        case rel => exact ⟨k + 1, n + 1, by simp, by simp, by omega, by omega, HST9.out, HU9.out⟩
                        case measure => simp [RowKit.intOf] <;> omega
                  | some rt =>
                    have HR := Lib.hid hr
                    clear hr
                    rw [hn] at HCM
                    skip
                    go_wp2_with fail
                    refine CG.mono ?_
                    rintro e w3 ⟨he, hst3, u3⟩
                    simp only [evS, Bool.false_eq_true, if_false, if_true, Option.getD, Option.isSome] at he
                    subst he
                    have HX3 := Lib.hid (HX.out.then u3 (fun q hq e => by have := HBB.out; have : q = b := e; omega))
                    have HST3 := Lib.hid hst3
                    have HU3 := Lib.hid (HU.out.trans u3)
                    obtain ⟨g2, off2, e2, c0⟩ := text_at (HSS.out.later HX3.out) k hlt
                    obtain ⟨rfl, rfl⟩ : g = g2 ∧ off = off2 := by simpa using e2
                    have HE := Lib.hid (show ss[k] = t from Option.some.inj ((List.getElem?_eq_getElem hlt).symm.trans HAT.out))
                    rw [HE.out] at c0
                    clear hst3 u3 CG HST HU HX e2
                    go_wp2_with fail
                    refine (HCM.out _).mono ?_
                    rintro e w4 ⟨rfl, rfl⟩
                    have HF := Lib.hid hf
                    clear hf c0 hn
                    go_wp2_with fail
                    go_loopw [19, 20] (fun fv jv w5 => FhRel zs ((n : Int) + 1) w4 fv jv w5) (fun _ jv _ => zs.length - (RowKit.intOf jv).toNat)
                    case atStart => exact ⟨0, false, rfl, rfl, by simp, Nat.zero_le _, Upd.refl _ _⟩
                    case round =>
                      obtain ⟨j, c, rfl, rfl, hc, hj, hX4⟩ := hrel
                      have HX4 := Lib.hid hX4
                      clear hX4
                      generalize wr = W6 at *
                      by_cases hjl : j < zs.length
                      · have hji : (j : Int) < zs.length := by omega
                        have hj200 : j < 200 := by have := HLzs.out; omega
                        obtain ⟨g3, off3, rfl, cj⟩ := cell_int_at (HRD.out.ext (HX3.out.trans HX4.out)) j hjl
                        have HTH := Lib.hid (take_has zs ((n : Int) + 1) j hjl)
                        rw [hc] at HTH
                        clear hc
                        generalize zs[j] = x at *
                        cases c with
                        | true =>
                          go_wp2_with fail
                          go_roundw
                          case rel => exact ⟨j + 1, true, by simp, rfl, by rw [HTH.out]; rfl, by omega, HX4.out⟩
                          case measure => simp [RowKit.intOf] <;> omega
                        | false =>
                          cases hx : (x == (n : Int) + 1) with
                          | true =>
                            rw [hx] at HTH
                            go_wp2_with fail
                            go_roundw
                            case rel => exact ⟨j + 1, true, by simp, rfl, by rw [HTH.out]; rfl, by omega, HX4.out⟩
                            case measure => simp [RowKit.intOf] <;> omega
                          | false =>
                            rw [hx] at HTH
                            go_wp2_with fail
                            go_roundw
                            case rel => exact ⟨j + 1, false, by simp, rfl, by rw [HTH.out]; rfl, by omega, HX4.out⟩
                            case measure => simp [RowKit.intOf] <;> omega
                      · obtain rfl : j = zs.length := by omega
                        have hji : ¬ (zs.length : Int) < zs.length := by omega
                        rw [List.take_length, decide_eq_false HF.out] at hc
                        subst hc
                        have HX6 := Lib.hid (HX3.out.trans HX4.out)
                        have HST6 := Lib.hid (HST3.out.ext HX4.out)
                        have HU6 := Lib.hid (HU3.out.thenExt HX4.out)
                        obtain ⟨g2, off2, e2, c0⟩ := text_at (HSS.out.later HX6.out) k hlt
                        obtain ⟨rfl, rfl⟩ : g = g2 ∧ off = off2 := by simpa using e2
                        rw [HE.out] at c0
                        have CL := lies_any (HWK.out _ HU6.out) kc L.length t (Nat.le_refl _) HKL.out
                        rw [HR.out] at CL
                        simp only [lieV, Option.getD, Option.isSome] at CL
                        go_wp2_with fail
                        refine CL.mono ?_
                        rintro e w7 ⟨rfl, rfl⟩
                        clear CL
                        have HX7 := HX6
                        have HST7 := HST6
                        have HU7 := HU6
                        have CC : Calls _ _ _ _ (fun e w' => e = .returned (.tuple #[.int .i64 ((n : Int) + 1), .int .i64 (L.length : Nat)]) ∧ Ext _ w') := counts_any HST7.out
                        go_wp2_with fail
                        refine CC.mono ?_
                        rintro e w8 ⟨rfl, u8⟩
                        have HX8 := Lib.hid (HX7.out.trans u8)
                        have HST8 := Lib.hid (HST7.out.ext u8)
                        have HU8 := Lib.hid (HU7.out.thenExt u8)
                        clear u8 CC HX7 HST7 HU7
                        have CD : Calls _ _ _ _ (fun e w' => e = .returned (.bool false) ∧ Ext _ w') := dead_any HST8.out
                        go_wp2_with fail
                        refine CD.mono ?_
                        rintro e w9 ⟨rfl, u9⟩
                        have HX9 := Lib.hid (HX8.out.trans u9)
                        have HST9 := Lib.hid (HST8.out.ext u9)
                        have HU9 := Lib.hid (HU8.out.thenExt u9)
                        clear u9 CD HX8 HST8 HU8
                        go_wp2_with fail
                        go_roundw
                        case rel => exact ⟨k + 1, n + 1, by simp, by simp, by omega, by omega, HST9.out, HU9.out⟩
                        case measure => simp [RowKit.intOf] <;> omega
              · rw [Bool.not_eq_true] at hn
                rw [fl_get_no zs L n t hn] at CG
                rw [hn] at HCM
                clear hn
                go_wp2_with fail
                refine CG.mono ?_
                rintro e w3 ⟨he, hst3, u3⟩
                simp only [evS] at he
                subst he
                have HX3 := Lib.hid (HX.out.then u3 (fun q hq e => by have := HBB.out; have : q = b := e; omega))
                have HST3 := Lib.hid hst3
                have HU3 := Lib.hid (HU.out.trans u3)
                obtain ⟨g2, off2, e2, c0⟩ := text_at (HSS.out.later HX3.out) k hlt
                obtain ⟨rfl, rfl⟩ : g = g2 ∧ off = off2 := by simpa using e2
                have HE := Lib.hid (show ss[k] = t from Option.some.inj ((List.getElem?_eq_getElem hlt).symm.trans HAT.out))
                rw [HE.out] at c0
                clear hst3 u3 CG HST HU HX e2
                go_wp2_with fail
                refine (HCM.out _).mono ?_
                rintro e w4 ⟨rfl, rfl⟩
                have CI := is0_any (HG.out.ext HX3.out) (v := sv se 2) (x := some (2, none)) ⟨by decide, by decide, rfl⟩ 2
                rw [show (codeOf (some (2, none)) == 2 && (!placed (some (2, none)) || placeOf (some (2, none)) == 0)) = true from rfl] at CI
                go_wp2_with fail
                refine CI.mono ?_
                rintro e w5 ⟨rfl, ui⟩
                have HX5 := Lib.hid (HX3.out.trans ui)
                have HST5 := Lib.hid (HST3.out.ext ui)
                have HU5 := Lib.hid (HU3.out.thenExt ui)
                clear CI ui HX3 HST3 HU3
                go_wp2_with fail
                go_roundw
                case rel => exact ⟨k + 1, n, by simp, rfl, by omega, by omega, HST5.out, HU5.out⟩
                case measure => simp [RowKit.intOf] <;> omega
            · obtain rfl : k = ss.length := by omega
              have hki : ¬ (ss.length : Int) < ss.length := by omega
              have CA := alive12_any (HG.out.ext HX.out)
              go_wp2_with fail
              refine CA.mono ?_
              rintro e wa ⟨rfl, ua⟩
              have HXA := Lib.hid (Upd.trans HX.out ua)
              clear CA ua
              go_wp2_with fail
              go_ret
              exact ⟨rfl, HXA.out⟩
end Go.Proofs.YtdkhnkhflbefbaaDoor
