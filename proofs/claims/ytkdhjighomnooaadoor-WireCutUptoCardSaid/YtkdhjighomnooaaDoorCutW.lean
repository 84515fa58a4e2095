/- The walk of WireCut. PRINTED by wip/tools/gen_cutw.py. -/
import Derived.Test.YtkdhjighomnooaaDoorCutPlain
import Derived.Test.YtkdhjighomnooaaDoorDecQ3
import Derived.Deep.CutRange
namespace Go.Proofs.YtkdhjighomnooaaDoor
open Go.RowKit Go.Lib

section
variable {P : Program} {ops : Array Oper} {Q : Exit → Act → World → Prop} {a : Act} {w : World} {i : Nat} {o : Oper} {K : Act → World → Prop}
theorem op_build2 (hi : ops[i]? = some o) (hw : Region.wanted o (yielded ops a.tmps) = true) (t e : TypeId) (y1 y2 : Operand) (ho : o.op = .buildSlice t 2 #[(0, y1), (1, y2)]) (v1 v2 : Value) (hy1 : a.eval y1 = v1) (hy2 : a.eval y2 = v2) (hu : P.underlying t = some (.slice e))
    (ie : TypeInfo) (z : Value) (hie : P.info? e = some ie) (hz : ie.zero = some z) (hs : ie.size = 1) (hzc : z.cells = #[z]) (hv1 : v1.cells = #[v1]) (hv2 : v2.cells = #[v2]) (h : K (a.put o.dst (.slice (some ⟨w.heap.size, 0, none⟩) 2 2)) (w.alloc (.cells #[v1, v2] e))) : wpOp P ops Q i K a w := by
  refine op_val hi hw ?_ h
  have hr := run_buildSlice (P := P) w t e 2 #[(0, v1), (1, v2)] #[v1, v2] ie z hu hie hz (by rw [hs]; omega) (by rw [hs]; omega) (by
    simp [Instr.fill, hs, hv1, hv2, hzc, Array.range, Array.setIfInBounds]
    refine Array.ext (by simp [hs]) (fun k h1 h2 => ?_)
    have hk : k < 2 := by simpa using h2
    rcases (show k = 0 ∨ k = 1 by omega) with rfl | rfl <;> simp [Array.getElem_set])
  simp only [execOp, ho, List.map_toArray, List.map_cons, List.map_nil, hy1, hy2, Sem.run_bind, hr, Result.andThen_ok]
  rfl
end
set_option maxRecDepth 8000 in
/-- Beyond, of two lengths. -/
theorem beyond_two (b n m : Nat) (hn : n ≤ 1048576) (w : World) (hb : w.heap[b]? = some (.cells #[.int .i64 n, .int .i64 m] 3 (0, 0))) (hm : m ≤ 9223372036854775807) : Calls Tryd.prog 7 #[.slice (some ⟨b, 0, none⟩) 2 2] w fun e w' => e = .returned (.bool (decide ((1048576 : Int) < wrap64 ((n : Int) + m)))) ∧ w = w' := by
  have c0 := cell_of_blk hb 0
  have c1 := cell_of_blk hb 1
  simp only [List.size_toArray, List.getElem?_toArray, List.getElem?_cons_zero, List.getElem?_cons_succ] at c0 c1
  have hni : ¬ (1048576 : Int) < n := by omega
  have hn0 : wrap64 ((n : Int)) = n := by unfold wrap64; omega
  have HRES : ∀ z, decide ((1048576 : Int) < wrap64 ((n : Int) + m)) = z → ((z = true ∧ (1048576 : Int) < wrap64 ((n : Int) + m)) ∨ (z = false ∧ ¬ (1048576 : Int) < wrap64 ((n : Int) + m))) := fun z hz => by
    subst hz
    by_cases h : (1048576 : Int) < wrap64 ((n : Int) + m) <;> simp [h]
  generalize hz : decide ((1048576 : Int) < wrap64 ((n : Int) + m)) = z at HRES ⊢
  have hc := HRES z rfl
  clear hb HRES hz hm hn
  rcases hc with ⟨rfl, hd⟩ | ⟨rfl, hd⟩
  all_goals
    go_enter Tryd.func7, Tryd.ntmps7
    go_wp2
    go_loopw [3, 4] (fun tv iv wr => ∃ j : Nat, j ≤ 2 ∧ iv = .int .i64 j ∧ tv = .int .i64 (if j = 0 then 0 else if j = 1 then n else wrap64 ((n : Int) + m)) ∧ w = wr ∧ (j = 2 → ¬ (1048576 : Int) < wrap64 ((n : Int) + m))) (fun _ iv _ => 2 - (RowKit.intOf iv).toNat)
    case atStart => exact ⟨0, by omega, rfl, by simp, rfl, fun h => by omega⟩
    case round =>
      obtain ⟨j, hj, rfl, rfl, rfl, hj2⟩ := hrel
      rcases (show j = 0 ∨ j = 1 ∨ j = 2 by omega) with rfl | rfl | rfl
      · simp only [if_pos]
        clear hj2
        go_wp2
        refine ⟨⟨1, by omega, by simp, by simp, by first | rfl | trivial, fun h => by omega⟩, by simp [RowKit.intOf]⟩
      · simp only [if_neg (show ¬ (1 : Nat) = 0 by omega), if_pos]
        clear hj2
        go_wp2
        first
        | (go_ret; exact ⟨rfl, rfl⟩)
        | (refine ⟨⟨2, by omega, by simp, by simp, by first | rfl | trivial, fun _ => by omega⟩, by simp [RowKit.intOf]⟩)
      · have hd2 := hj2 rfl
        first
        | exact absurd hd hd2
        | (simp only [if_neg (show ¬ (2 : Nat) = 0 by omega), if_neg (show ¬ (2 : Nat) = 1 by omega)]
           clear hj2 hd2
           go_wp2
           go_ret
           exact ⟨rfl, rfl⟩)
theorem str_cutQ (b : List UInt8) (c : Nat) : (str b).extract 0 c = str (b.take c) := by
  apply ByteArray.ext
  apply Array.ext'
  simp
theorem str_app (a b : List UInt8) : str a ++ str b = str (a ++ b) := by
  apply ByteArray.ext
  apply Array.ext'
  simp
/-- A new block of one byte is an own row. -/
theorem own_fresh {w0 w : World} {B : Nat} (h : Ext w0 w) (hB : B ≤ w0.heap.size) (v : Value) : (w.alloc (.cells #[v] 5)).ownsRow B 5 1 (.slice (some ⟨w.heap.size, 0, none⟩) 1 1) 1 [v] :=
  ⟨rfl, .inr ⟨w.heap.size, 1, #[v], rfl, Nat.le_trans hB h.size, blk_alloc _ _, Nat.le_refl _, by decide, rfl, rfl⟩⟩
theorem body_tsize : hasBody Tryd.prog 14 = true := by kernel_rfl
theorem body_beyond : hasBody Tryd.prog 7 = true := by kernel_rfl
theorem info_int : (Tryd.prog.info? 3).map (fun i => (i.zero, i.size, i.bytes)) = some (some (.int .i64 0), 1, 8) := by kernel_rfl

set_option maxRecDepth 8000 in
set_option maxHeartbeats 4000000 in
theorem cut_any {B : Nat} {se : Nat → Addr} {w : World} (G : Genv B se w) (A : Asks B w) (q : QryD) (hq : q.Ok) (ad : Option Addr) (ca : Nat) (hx : TextsAt w ad q.leaves) (hsz : sizes q.leaves + q.leaves.length ≤ 1048576) (x : AnsD) (ok : x.Ok) (bd : Option Addr) (cb : Nat) (hh : HashesAt w bd x.hs) (c : UInt8) :
    Calls Tryd.prog 6 #[.agg (qCells q (.slice ad q.leaves.length ca)).toArray, .agg (ansCells x (.slice bd x.hs.length cb)), .int .u8 (c.toNat : Int)] w fun e w' => e = .returned (.bool true) ∧ Ext w w' := by
  have X := ((Upd.refl none' w).alloc (.cells #[.int .u8 q.kind, .int .u8 q.engine, .int .u64 q.size, .int .u64 q.index, .int .u64 q.old, .int .u64 q.bgn, .int .u64 q.fin, .slice ad q.leaves.length ca] 45)).alloc (.cells #[.int .u8 x.code, .int .u64 x.size, .slice bd x.hs.length cb, .string x.leaf] 26)
  have hb := blk_alloc_lt (blk_alloc w (.cells #[.int .u8 q.kind, .int .u8 q.engine, .int .u64 q.size, .int .u64 q.index, .int .u64 q.old, .int .u64 q.bgn, .int .u64 q.fin, .slice ad q.leaves.length ca] 45)) (.cells #[.int .u8 x.code, .int .u64 x.size, .slice bd x.hs.length cb, .string x.leaf] 26)
  have hb2 := blk_alloc (w.alloc (.cells #[.int .u8 q.kind, .int .u8 q.engine, .int .u64 q.size, .int .u64 q.index, .int .u64 q.old, .int .u64 q.bgn, .int .u64 q.fin, .slice ad q.leaves.length ca] 45)) (.cells #[.int .u8 x.code, .int .u64 x.size, .slice bd x.hs.length cb, .string x.leaf] 26)
  rw [World.size_alloc] at hb2
  obtain ⟨NN, hN⟩ : ∃ NN, sizes q.leaves + q.leaves.length = NN := ⟨_, rfl⟩
  have HNN := Lib.hid hN
  simp only [qCells, ansCells]
  have HX := Lib.hid X
  have HB := Lib.hid hb
  have HB2 := Lib.hid hb2
  have HG := Lib.hid G
  have HA := Lib.hid A
  have HOK := Lib.hid hq
  have HXS := Lib.hid hx
  have HSZ := Lib.hid hsz
  have HOKA := Lib.hid ok
  have HHH := Lib.hid hh
  clear X hb hb2 G A hq hx ok hh hsz hN
  go_enter Tryd.func6, Tryd.ntmps6
  go_upto_region 1 with fail
  generalize hW : (w.alloc (.cells #[.int .u8 q.kind, .int .u8 q.engine, .int .u64 q.size, .int .u64 q.index, .int .u64 q.old, .int .u64 q.bgn, .int .u64 q.fin, .slice ad q.leaves.length ca] 45)).alloc (.cells #[.int .u8 x.code, .int .u64 x.size, .slice bd x.hs.length cb, .string x.leaf] 26) = W0 at *
  clear hW
  go_cut [31] from 24 to 31 (fun v wx => v = .bool (decide ((1048576 : Int) < wrap64 ((NN : Int) + x.hs.length))) ∧ (W0.drew).alloc (.cells #[.int .i64 NN, .int .i64 x.hs.length] 3) = wx)
  case first =>
    obtain ⟨i0, hi0, hz0, hz1, hz2⟩ := info_parts info_int
    refine wp_region_any (by kernel_rfl) ?_
    change wpAny _ _ _ _ _ _ _ (World.drew _)
    have HE : Hid (Ext W0 W0.drew) := Lib.hid ((Upd.refl none' W0).drew)
    obtain ⟨wd, hwd⟩ : ∃ wd, W0.drew = wd := ⟨_, rfl⟩
    rw [hwd] at HE ⊢
    have HWD := Lib.hid hwd
    clear hwd
    have HCT := Lib.hid (textsSize_any (HXS.out.later (HX.out.trans HE.out)) ca HSZ.out)
    rw [HNN.out] at HCT
    have HCB := Lib.hid (beyond_two _ NN x.hs.length (by have := HSZ.out; have := HNN.out; omega) _ (blk_alloc wd (.cells #[.int .i64 NN, .int .i64 x.hs.length] 3)) HOKA.out.many)
    have HC7 := Lib.hid (show wd.cell? ⟨w.heap.size, 7, none⟩ = some (.slice ad q.leaves.length ca) by rw [cell_of_blk (Ext.blk HE.out HB.out)]; rfl)
    have HD2 := Lib.hid (show wd.cell? ⟨w.heap.size + 1, 2, none⟩ = some (.slice bd x.hs.length cb) by rw [cell_of_blk (Ext.blk HE.out HB2.out)]; rfl)
    (refine wpAny_take (i := 0) (v := ?_) rfl (by kernel_rfl) (by kernel_rfl) (by kernel_rfl) (fun _ _ _ h => h) (Or.inl ⟨by rfl, ?_⟩) ?_; rotate_left; (· (intro w; go_simp; all_goals (with_reducible rfl))); refine any_normQ (by go_simp; all_goals exact rfl) ?_)
    (refine wpAny_take (i := 3) (v := ?_) rfl (by kernel_rfl) (by kernel_rfl) (by kernel_rfl) (fun _ _ _ h => h) (Or.inl ⟨by rfl, ?_⟩) ?_; rotate_left; (· (intro w; go_simp; all_goals (with_reducible rfl))); refine any_normQ (by go_simp; all_goals exact rfl) ?_)
    refine any2 1 4 (by kernel_rfl) ?_ ?_
    · refine op_load1 rfl (by rfl) rfl ⟨w.heap.size, 7, none⟩ (.slice ad q.leaves.length ca) rfl Tryd.underlying43 rfl HC7.out ?_
      refine any_normQ (by go_simp; all_goals exact rfl) ?_
      refine any2 2 4 (by kernel_rfl) ?_ ?_
      · refine op_callf rfl (by rfl) 14 [.tmp 25] _ rfl body_tsize [.slice ad q.leaves.length ca] rfl (R := fun v w' => v = .int .i64 (NN : Int) ∧ wd = w') (HCT.out.mono (by rintro e w' ⟨rfl, rfl⟩; exact ⟨_, rfl, rfl, rfl⟩)) ?_
        rintro v w2 ⟨rfl, rfl⟩
        refine any_normQ (by go_simp; all_goals exact rfl) ?_
        refine any1 4 (by kernel_rfl) ?_
        refine op_load1 rfl (by rfl) rfl ⟨w.heap.size + 1, 2, none⟩ (.slice bd x.hs.length cb) rfl Tryd.underlying24 rfl HD2.out ?_
        refine any_normQ (by go_simp; all_goals exact rfl) ?_
        (refine wpAny_take (i := 5) (v := ?_) rfl (by kernel_rfl) (by kernel_rfl) (by kernel_rfl) (fun _ _ _ h => h) (Or.inl ⟨by rfl, ?_⟩) ?_; rotate_left; (· (intro w; go_simp; all_goals (with_reducible rfl))); refine any_normQ (by go_simp; all_goals exact rfl) ?_)
        refine any1 6 (by kernel_rfl) ?_
        refine op_build2 rfl (by rfl) 62 3 _ _ rfl (.int .i64 NN) (.int .i64 x.hs.length) rfl rfl Tryd.underlying62 i0 (.int .i64 0) hi0 hz0 hz1 rfl rfl rfl ?_
        refine any_normQ (by go_simp; all_goals exact rfl) ?_
        refine any1 7 (by kernel_rfl) ?_
        refine op_callf rfl (by rfl) 7 [.tmp 30] _ rfl body_beyond [.slice (some ⟨wd.heap.size, 0, none⟩) 2 2] rfl (R := fun v w' => v = .bool (decide ((1048576 : Int) < wrap64 ((NN : Int) + x.hs.length))) ∧ wd.alloc (.cells #[.int .i64 NN, .int .i64 x.hs.length] 3) = w') (HCB.out.mono (by rintro e w' ⟨rfl, rfl⟩; exact ⟨_, rfl, rfl, rfl⟩)) ?_
        rintro v w2 ⟨rfl, rfl⟩
        refine any_normQ (by go_simp; all_goals exact rfl) ?_
        refine wpAny_done (by kernel_rfl) ?_ _
        go_wp2_with fail
        go_meet
        exact ⟨rfl, by rw [HWD.out]⟩
      · refine op_load1 rfl (by rfl) rfl ⟨w.heap.size + 1, 2, none⟩ (.slice bd x.hs.length cb) rfl Tryd.underlying24 rfl HD2.out ?_
        refine any_normQ (by go_simp; all_goals exact rfl) ?_
        (refine wpAny_take (i := 5) (v := ?_) rfl (by kernel_rfl) (by kernel_rfl) (by kernel_rfl) (fun _ _ _ h => h) (Or.inl ⟨by rfl, ?_⟩) ?_; rotate_left; (· (intro w; go_simp; all_goals (with_reducible rfl))); refine any_normQ (by go_simp; all_goals exact rfl) ?_)
        refine any1 2 (by kernel_rfl) ?_
        refine op_callf rfl (by rfl) 14 [.tmp 25] _ rfl body_tsize [.slice ad q.leaves.length ca] rfl (R := fun v w' => v = .int .i64 (NN : Int) ∧ wd = w') (HCT.out.mono (by rintro e w' ⟨rfl, rfl⟩; exact ⟨_, rfl, rfl, rfl⟩)) ?_
        rintro v w2 ⟨rfl, rfl⟩
        refine any_normQ (by go_simp; all_goals exact rfl) ?_
        refine any1 6 (by kernel_rfl) ?_
        refine op_build2 rfl (by rfl) 62 3 _ _ rfl (.int .i64 NN) (.int .i64 x.hs.length) rfl rfl Tryd.underlying62 i0 (.int .i64 0) hi0 hz0 hz1 rfl rfl rfl ?_
        refine any_normQ (by go_simp; all_goals exact rfl) ?_
        refine any1 7 (by kernel_rfl) ?_
        refine op_callf rfl (by rfl) 7 [.tmp 30] _ rfl body_beyond [.slice (some ⟨wd.heap.size, 0, none⟩) 2 2] rfl (R := fun v w' => v = .bool (decide ((1048576 : Int) < wrap64 ((NN : Int) + x.hs.length))) ∧ wd.alloc (.cells #[.int .i64 NN, .int .i64 x.hs.length] 3) = w') (HCB.out.mono (by rintro e w' ⟨rfl, rfl⟩; exact ⟨_, rfl, rfl, rfl⟩)) ?_
        rintro v w2 ⟨rfl, rfl⟩
        refine any_normQ (by go_simp; all_goals exact rfl) ?_
        refine wpAny_done (by kernel_rfl) ?_ _
        go_wp2_with fail
        go_meet
        exact ⟨rfl, by rw [HWD.out]⟩
    · refine op_load1 rfl (by rfl) rfl ⟨w.heap.size + 1, 2, none⟩ (.slice bd x.hs.length cb) rfl Tryd.underlying24 rfl HD2.out ?_
      refine any_normQ (by go_simp; all_goals exact rfl) ?_
      (refine wpAny_take (i := 5) (v := ?_) rfl (by kernel_rfl) (by kernel_rfl) (by kernel_rfl) (fun _ _ _ h => h) (Or.inl ⟨by rfl, ?_⟩) ?_; rotate_left; (· (intro w; go_simp; all_goals (with_reducible rfl))); refine any_normQ (by go_simp; all_goals exact rfl) ?_)
      refine any1 1 (by kernel_rfl) ?_
      refine op_load1 rfl (by rfl) rfl ⟨w.heap.size, 7, none⟩ (.slice ad q.leaves.length ca) rfl Tryd.underlying43 rfl HC7.out ?_
      refine any_normQ (by go_simp; all_goals exact rfl) ?_
      refine any1 2 (by kernel_rfl) ?_
      refine op_callf rfl (by rfl) 14 [.tmp 25] _ rfl body_tsize [.slice ad q.leaves.length ca] rfl (R := fun v w' => v = .int .i64 (NN : Int) ∧ wd = w') (HCT.out.mono (by rintro e w' ⟨rfl, rfl⟩; exact ⟨_, rfl, rfl, rfl⟩)) ?_
      rintro v w2 ⟨rfl, rfl⟩
      refine any_normQ (by go_simp; all_goals exact rfl) ?_
      refine any1 6 (by kernel_rfl) ?_
      refine op_build2 rfl (by rfl) 62 3 _ _ rfl (.int .i64 NN) (.int .i64 x.hs.length) rfl rfl Tryd.underlying62 i0 (.int .i64 0) hi0 hz0 hz1 rfl rfl rfl ?_
      refine any_normQ (by go_simp; all_goals exact rfl) ?_
      refine any1 7 (by kernel_rfl) ?_
      refine op_callf rfl (by rfl) 7 [.tmp 30] _ rfl body_beyond [.slice (some ⟨wd.heap.size, 0, none⟩) 2 2] rfl (R := fun v w' => v = .bool (decide ((1048576 : Int) < wrap64 ((NN : Int) + x.hs.length))) ∧ wd.alloc (.cells #[.int .i64 NN, .int .i64 x.hs.length] 3) = w') (HCB.out.mono (by rintro e w' ⟨rfl, rfl⟩; exact ⟨_, rfl, rfl, rfl⟩)) ?_
      rintro v w2 ⟨rfl, rfl⟩
      refine any_normQ (by go_simp; all_goals exact rfl) ?_
      refine wpAny_done (by kernel_rfl) ?_ _
      go_wp2_with fail
      go_meet
      exact ⟨rfl, by rw [HWD.out]⟩
  case rest =>
    obtain ⟨rfl, rfl⟩ := hcut
    have X1 := ((Upd.refl none' W0).drew).alloc (.cells #[.int .i64 NN, .int .i64 x.hs.length] 3)
    have HU1 := Lib.hid (HX.out.trans X1)
    have HB1 := Lib.hid (Ext.blk X1 HB.out)
    have HB21 := Lib.hid (Ext.blk X1 HB2.out)
    generalize (W0.drew).alloc (.cells #[.int .i64 NN, .int .i64 x.hs.length] 3) = W1 at HU1 HB1 HB21 ⊢
    clear X1 HX HB HB2
    by_cases hbe : (1048576 : Int) < wrap64 ((NN : Int) + x.hs.length)
    · have hd : decide ((1048576 : Int) < wrap64 ((NN : Int) + x.hs.length)) = true := by simp [hbe]
      rw [hd]
      clear hbe hd
      go_wp2_with fail
      go_ret
      exact ⟨rfl, HU1.out⟩
    · have hd : decide ((1048576 : Int) < wrap64 ((NN : Int) + x.hs.length)) = false := by simp [hbe]
      rw [hd]
      clear hbe hd
      have CE := encQ_one (HG.out.ext HU1.out) (HA.out.ext HU1.out) q HOK.out ad ca (HXS.out.later HU1.out)
      simp only [qCells] at CE
      have c0 := cell_of_blk HB1.out 0
      have c1 := cell_of_blk HB1.out 1
      have c2 := cell_of_blk HB1.out 2
      have c3 := cell_of_blk HB1.out 3
      have c4 := cell_of_blk HB1.out 4
      have c5 := cell_of_blk HB1.out 5
      have c6 := cell_of_blk HB1.out 6
      have c7 := cell_of_blk HB1.out 7
      simp only [List.size_toArray, List.getElem?_toArray, List.getElem?_cons_zero, List.getElem?_cons_succ] at c0 c1 c2 c3 c4 c5 c6 c7
      go_wp2_with fail
      refine CE.mono ?_
      rintro e w2 ⟨v, rfl, hv, u⟩
      have HW2 := Lib.hid (HU1.out.trans u)
      have HB22 := Lib.hid (Ext.blk u HB21.out)
      have HV := Lib.hid hv
      replace HG := Lib.hid (HG.out.ext HW2.out)
      replace HA := Lib.hid (HA.out.ext HW2.out)
      have HHA := Lib.hid (HHH.out.later HW2.out)
      have HUx : Hid (Ext w2 w2) := Lib.hid (Upd.refl none' w2)
      clear CE c0 c1 c2 c3 c4 c5 c6 c7 hv u HB1 HB21 HU1 HHH HXS
      by_cases hne : qryE q = none
      · have hm : mayB q = true := by
          cases hq0 : mayB q with
          | true => rfl
          | false => unfold qryE at hne; rw [if_pos hq0] at hne; cases hne
        have hm0 : ¬ (mayB q = false) := by rw [hm]; simp
        have hbig : ¬ bigQ q.leaves := fun h => by unfold qryE at hne; rw [if_neg hm0, if_pos h] at hne; cases hne
        have hw : ¬ 1048576 < q.body.length := fun h => by unfold qryE at hne; rw [if_neg hm0, if_neg hbig] at hne; unfold wholeE at hne; rw [if_pos h] at hne; cases hne
        have e2 : qryB q = q.body := by unfold qryB; rw [if_neg hm0, if_neg hbig]; unfold wholeB; rw [if_neg hw]
        have hv3 := HV.out
        rw [hne] at hv3
        obtain rfl : v = .nilIface := hv3
        rw [e2]
        have HCUT := Lib.hid (decQ_cut q HOK.out hm hbig (by omega))
        have HMORE : Hid (q.body.length < 600 → decQ (str (q.body ++ [c])) = (zeroQ, some (3, some (q.body.length : Int)))) := Lib.hid (fun h => decQ_more q HOK.out hm hbig (by omega) c)
        generalize q.body = bs at HCUT HMORE ⊢
        clear hm hm0 hbig hw e2 hne HV
        have HSS : ∃ S, S = str bs := ⟨_, rfl⟩
        obtain ⟨S, hS⟩ := HSS
        rw [← hS]
        have hSz : bs.length = S.size := by rw [hS, str_size]
        rw [hSz] at HCUT HMORE
        have HSS := Lib.hid hS
        have HBL := Lib.hid hSz
        by_cases h6 : S.size < 600
        · have d6 : (S.size : Int) < 600 := by omega
          have HMORE := Lib.hid (HMORE.out h6)
          clear hS hSz h6
          go_wp2_with fail
          go_loopw [9] (fun iv wr => ∃ i : Nat, iv = .int .i64 i ∧ i ≤ S.size ∧ Ext w2 wr) (fun iv _ => S.size - (RowKit.intOf iv).toNat)
          case atStart => exact ⟨0, rfl, Nat.zero_le _, HUx.out⟩
          case round =>
            obtain ⟨i, rfl, hi, hur⟩ := hrel
            rename World => wr
            have HUR := Lib.hid hur
            clear hur HUx
            by_cases hlt : i < S.size
            · have hli : (i : Int) < S.size := by omega
              have hi6 : (i : Int) < 600 := by omega
              have hex : S.extract 0 i = str (bs.take i) := by rw [HSS.out]; exact str_cutQ _ i
              obtain ⟨k, hk, hdk⟩ := HCUT.out i hlt
              have C := decQ_any (HG.out.ext HUR.out) (HA.out.ext HUR.out) (str (bs.take i)) (by rw [str_size, List.length_take]; have := HBL.out; omega)
              rw [hdk] at C
              have dk : ¬ (i : Int) < (k : Int) := by omega
              have HLT := Lib.hid hlt
              clear hdk hk hlt
              go_wp2_with fail
              refine C.mono ?_
              rintro e w5 ⟨a5, cap5, v5, rfl, h5, hv5, u5⟩
              simp only [qCells]
              have X5 := (Upd.refl none' w5).alloc (.cells #[.int .u8 0, .int .u8 0, .int .u64 0, .int .u64 0, .int .u64 0, .int .u64 0, .int .u64 0, .slice a5 0 cap5] 45)
              have hv6 := hv5.ext X5
              have HU5 := Lib.hid (HUR.out.trans (u5.trans X5))
              have hi := (err_form hv5).resolve_left (fun h => by simp at h)
              obtain ⟨⟨ti, yi, rfl⟩, _⟩ := hi
              have HV6 := Lib.hid hv6
              have CA : Calls Tryd.prog 22 #[.iface ti yi] (w5.alloc (.cells #[.int .u8 0, .int .u8 0, .int .u64 0, .int .u64 0, .int .u64 0, .int .u64 0, .int .u64 0, .slice a5 0 cap5] 45)) fun e w' => e = .returned (.tuple #[.int .i64 (k : Int), .bool true]) ∧ Ext (w5.alloc (.cells #[.int .u8 0, .int .u8 0, .int .u64 0, .int .u64 0, .int .u64 0, .int .u64 0, .int .u64 0, .slice a5 0 cap5] 45)) w' := at_any (HG.out.ext HU5.out) hv6
              clear h5 hv5 hv6 u5 X5 C
              go_wp2_with fail
              refine CA.mono ?_
              rintro e w6 ⟨rfl, u6⟩
              have CI := isAt_any (HG.out.ext (HU5.out.trans u6)) (HV6.out.ext u6) 3 (k : Int)
              have eI : isAtB (some (3, some (k : Int))) 3 (k : Int) = true := by simp [isAtB, codeOf, placed, placeOf]
              rw [eI] at CI
              have HU6 := Lib.hid (HU5.out.trans u6)
              clear u6 CA eI
              go_wp2_with fail
              refine CI.mono ?_
              rintro e w7 ⟨rfl, u7⟩
              have HU7 := Lib.hid (HU6.out.trans u7)
              clear u7 CI
              go_wp2_with fail
              exact ⟨⟨i + 1, by simp, by have := HLT.out; omega, HU7.out⟩, by simp [RowKit.intOf]; have := HLT.out; omega⟩
            · obtain rfl : i = S.size := by omega
              have hst := run_str_own (wr.alloc (.cells #[.int .u8 (c.toNat : Int)] 5)) (B := wr.heap.size) (xs := [c]) (own_fresh (Upd.refl none' wr) (Nat.le_refl _) (.int .u8 (c.toNat : Int)))
              have XB := (Upd.refl none' wr).alloc (.cells #[.int .u8 (c.toNat : Int)] 5)
              have hcat : S ++ str [c] = str (bs ++ [c]) := by rw [HSS.out]; exact str_app _ _
              have C := decQ_any (HG.out.ext (HUR.out.trans XB)) (HA.out.ext (HUR.out.trans XB)) (str (bs ++ [c])) (by rw [str_size, List.length_append]; have := HBL.out; simp; omega)
              rw [HMORE.out] at C
              have h63 : ¬ 9223372036854775807 < S.size + (str [c]).size := by
                  have hc1 : (str [c]).size = 1 := (str_size [c]).trans rfl
                  rw [hc1]; omega
              have XB2 := Lib.hid (HUR.out.trans XB)
              clear hlt XB HUR
              have HUR := XB2
              clear XB2
              go_wp2_with fail
              refine C.mono ?_
              rintro e w5 ⟨a5, cap5, v5, rfl, h5, hv5, u5⟩
              simp only [qCells]
              have X5 := (Upd.refl none' w5).alloc (.cells #[.int .u8 0, .int .u8 0, .int .u64 0, .int .u64 0, .int .u64 0, .int .u64 0, .int .u64 0, .slice a5 0 cap5] 45)
              have hv6 := hv5.ext X5
              have HU5 := Lib.hid (HUR.out.trans (u5.trans X5))
              have hi := (err_form hv5).resolve_left (fun h => by simp at h)
              obtain ⟨⟨ti, yi, rfl⟩, _⟩ := hi
              have HV6 := Lib.hid hv6
              have CI := isAt_any (HG.out.ext HU5.out) hv6 3 (S.size : Int)
              have eI : isAtB (some (3, some (S.size : Int))) 3 (S.size : Int) = true := by simp [isAtB, codeOf, placed, placeOf]
              rw [eI] at CI
              clear h5 hv5 hv6 u5 X5 C eI
              go_wp2_with fail
              refine CI.mono ?_
              rintro e w7 ⟨rfl, u7⟩
              have HUx := Lib.hid (HU5.out.trans u7)
              clear u7 CI
              have hbx := Ext.blk HUx.out HB22.out
              have c0 := cell_of_blk hbx 0
              have c1 := cell_of_blk hbx 1
              have c2 := cell_of_blk hbx 2
              have c3 := cell_of_blk hbx 3
              simp only [List.size_toArray, List.getElem?_toArray, List.getElem?_cons_zero, List.getElem?_cons_succ] at c0 c1 c2 c3
              have CE := encA_any (HG.out.ext HUx.out) x HOKA.out bd cb (HHA.out.later HUx.out)
              simp only [ansCells] at CE
              clear hbx
              go_wp2_with fail
              refine CE.mono ?_
              rintro e wy ⟨v, rfl, hv, u⟩
              have HUy := Lib.hid (HUx.out.trans u)
              have HV := Lib.hid hv
              clear CE c0 c1 c2 c3 hv u HUx
              have HUx := HUy
              clear HUy
              by_cases hne : ansE x = none
              · have hbad : ¬ x.bad := fun hb => by have := (once_bad x hb).1; rw [hne] at this; cases this
                have hv3 := HV.out
                rw [hne] at hv3
                obtain rfl : v = .nilIface := hv3
                have HCUT := Lib.hid (decA_cut x HOKA.out hbad hne)
                have HMORE : Hid ((ansB x).length < 600 → decA (str (ansB x ++ [c])) = (zeroA, some (3, some ((ansB x).length : Int)))) := Lib.hid (fun h => decA_more x HOKA.out hbad hne (by omega) c)
                generalize ansB x = bs at HCUT HMORE ⊢
                clear hbad hne HV
                have HSS : ∃ S, S = str bs := ⟨_, rfl⟩
                obtain ⟨S, hS⟩ := HSS
                rw [← hS]
                have hSz : bs.length = S.size := by rw [hS, str_size]
                rw [hSz] at HCUT HMORE
                have HSS := Lib.hid hS
                have HBL := Lib.hid hSz
                by_cases h6 : S.size < 600
                · have d6 : (S.size : Int) < 600 := by omega
                  have HMORE := Lib.hid (HMORE.out h6)
                  clear hS hSz h6
                  go_wp2_with fail
                  go_loopw [17] (fun iv wr => ∃ i : Nat, iv = .int .i64 i ∧ i ≤ S.size ∧ Ext w2 wr) (fun iv _ => S.size - (RowKit.intOf iv).toNat)
                  case atStart => exact ⟨0, rfl, Nat.zero_le _, HUx.out⟩
                  case round =>
                    obtain ⟨i, rfl, hi, hur⟩ := hrel
                    rename World => wr
                    have HUR := Lib.hid hur
                    clear hur HUx
                    by_cases hlt : i < S.size
                    · have hli : (i : Int) < S.size := by omega
                      have hi6 : (i : Int) < 600 := by omega
                      have hex : S.extract 0 i = str (bs.take i) := by rw [HSS.out]; exact str_cutQ _ i
                      obtain ⟨k, hk, hdk⟩ := HCUT.out i hlt
                      have C := decA_any (HG.out.ext HUR.out) (str (bs.take i)) (by rw [str_size, List.length_take]; have := HBL.out; omega)
                      rw [hdk] at C
                      have dk : ¬ (i : Int) < (k : Int) := by omega
                      have HLT := Lib.hid hlt
                      clear hdk hk hlt
                      go_wp2_with fail
                      refine C.mono ?_
                      rintro e w5 ⟨a5, cap5, v5, rfl, h5, hv5, u5⟩
                      simp only [ansCells]
                      have X5 := (Upd.refl none' w5).alloc (.cells #[.int .u8 0, .int .u64 0, .slice a5 0 cap5, .string ⟨#[]⟩] 26)
                      have hv6 := hv5.ext X5
                      have HU5 := Lib.hid (HUR.out.trans (u5.trans X5))
                      have hi := (err_form hv5).resolve_left (fun h => by simp at h)
                      obtain ⟨⟨ti, yi, rfl⟩, _⟩ := hi
                      have HV6 := Lib.hid hv6
                      have CA : Calls Tryd.prog 22 #[.iface ti yi] (w5.alloc (.cells #[.int .u8 0, .int .u64 0, .slice a5 0 cap5, .string ⟨#[]⟩] 26)) fun e w' => e = .returned (.tuple #[.int .i64 (k : Int), .bool true]) ∧ Ext (w5.alloc (.cells #[.int .u8 0, .int .u64 0, .slice a5 0 cap5, .string ⟨#[]⟩] 26)) w' := at_any (HG.out.ext HU5.out) hv6
                      clear h5 hv5 hv6 u5 X5 C
                      go_wp2_with fail
                      refine CA.mono ?_
                      rintro e w6 ⟨rfl, u6⟩
                      have CI := isAt_any (HG.out.ext (HU5.out.trans u6)) (HV6.out.ext u6) 3 (k : Int)
                      have eI : isAtB (some (3, some (k : Int))) 3 (k : Int) = true := by simp [isAtB, codeOf, placed, placeOf]
                      rw [eI] at CI
                      have HU6 := Lib.hid (HU5.out.trans u6)
                      clear u6 CA eI
                      go_wp2_with fail
                      refine CI.mono ?_
                      rintro e w7 ⟨rfl, u7⟩
                      have HU7 := Lib.hid (HU6.out.trans u7)
                      clear u7 CI
                      go_wp2_with fail
                      exact ⟨⟨i + 1, by simp, by have := HLT.out; omega, HU7.out⟩, by simp [RowKit.intOf]; have := HLT.out; omega⟩
                    · obtain rfl : i = S.size := by omega
                      have hst := run_str_own (wr.alloc (.cells #[.int .u8 (c.toNat : Int)] 5)) (B := wr.heap.size) (xs := [c]) (own_fresh (Upd.refl none' wr) (Nat.le_refl _) (.int .u8 (c.toNat : Int)))
                      have XB := (Upd.refl none' wr).alloc (.cells #[.int .u8 (c.toNat : Int)] 5)
                      have hcat : S ++ str [c] = str (bs ++ [c]) := by rw [HSS.out]; exact str_app _ _
                      have C := decA_any (HG.out.ext (HUR.out.trans XB)) (str (bs ++ [c])) (by rw [str_size, List.length_append]; have := HBL.out; simp; omega)
                      rw [HMORE.out] at C
                      have h63 : ¬ 9223372036854775807 < S.size + (str [c]).size := by
                          have hc1 : (str [c]).size = 1 := (str_size [c]).trans rfl
                          rw [hc1]; omega
                      have XB2 := Lib.hid (HUR.out.trans XB)
                      clear hlt XB HUR
                      have HUR := XB2
                      clear XB2
                      go_wp2_with fail
                      refine C.mono ?_
                      rintro e w5 ⟨a5, cap5, v5, rfl, h5, hv5, u5⟩
                      simp only [ansCells]
                      have X5 := (Upd.refl none' w5).alloc (.cells #[.int .u8 0, .int .u64 0, .slice a5 0 cap5, .string ⟨#[]⟩] 26)
                      have hv6 := hv5.ext X5
                      have HU5 := Lib.hid (HUR.out.trans (u5.trans X5))
                      have hi := (err_form hv5).resolve_left (fun h => by simp at h)
                      obtain ⟨⟨ti, yi, rfl⟩, _⟩ := hi
                      have HV6 := Lib.hid hv6
                      have CI := isAt_any (HG.out.ext HU5.out) hv6 3 (S.size : Int)
                      have eI : isAtB (some (3, some (S.size : Int))) 3 (S.size : Int) = true := by simp [isAtB, codeOf, placed, placeOf]
                      rw [eI] at CI
                      clear h5 hv5 hv6 u5 X5 C eI
                      go_wp2_with fail
                      refine CI.mono ?_
                      rintro e w7 ⟨rfl, u7⟩
                      have HUx := Lib.hid (HU5.out.trans u7)
                      clear u7 CI
                      have CL := alive_any (HG.out.ext HUx.out) (HA.out.ext HUx.out)
                      go_wp2_with fail
                      refine CL.mono ?_
                      rintro e wz ⟨rfl, uz⟩
                      have HUZ := Lib.hid (HUx.out.trans uz)
                      clear uz CL
                      go_wp2_with fail
                      go_ret
                      exact ⟨rfl, HW2.out.trans HUZ.out⟩
                · have d6 : ¬ (S.size : Int) < 600 := by omega
                  clear hS hSz h6
                  have CL := alive_any (HG.out.ext HUx.out) (HA.out.ext HUx.out)
                  go_wp2_with fail
                  refine CL.mono ?_
                  rintro e wz ⟨rfl, uz⟩
                  have HUZ := Lib.hid (HUx.out.trans uz)
                  clear uz CL
                  go_wp2_with fail
                  go_ret
                  exact ⟨rfl, HW2.out.trans HUZ.out⟩
              · have hv3 := HV.out
                obtain ⟨ee, hee⟩ := Option.ne_none_iff_exists'.1 hne
                rw [hee] at hv3
                have hi := (err_form hv3).resolve_left (fun h => by simp at h)
                obtain ⟨⟨ti, yi, rfl⟩, _⟩ := hi
                clear hne hv3 hee HV
                have CL := alive_any (HG.out.ext HUx.out) (HA.out.ext HUx.out)
                go_wp2_with fail
                refine CL.mono ?_
                rintro e wz ⟨rfl, uz⟩
                have HUZ := Lib.hid (HUx.out.trans uz)
                clear uz CL
                go_wp2_with fail
                go_ret
                exact ⟨rfl, HW2.out.trans HUZ.out⟩
        · have d6 : ¬ (S.size : Int) < 600 := by omega
          clear hS hSz h6
          have hbx := Ext.blk HUx.out HB22.out
          have c0 := cell_of_blk hbx 0
          have c1 := cell_of_blk hbx 1
          have c2 := cell_of_blk hbx 2
          have c3 := cell_of_blk hbx 3
          simp only [List.size_toArray, List.getElem?_toArray, List.getElem?_cons_zero, List.getElem?_cons_succ] at c0 c1 c2 c3
          have CE := encA_any (HG.out.ext HUx.out) x HOKA.out bd cb (HHA.out.later HUx.out)
          simp only [ansCells] at CE
          clear hbx
          go_wp2_with fail
          refine CE.mono ?_
          rintro e wy ⟨v, rfl, hv, u⟩
          have HUy := Lib.hid (HUx.out.trans u)
          have HV := Lib.hid hv
          clear CE c0 c1 c2 c3 hv u HUx
          have HUx := HUy
          clear HUy
          by_cases hne : ansE x = none
          · have hbad : ¬ x.bad := fun hb => by have := (once_bad x hb).1; rw [hne] at this; cases this
            have hv3 := HV.out
            rw [hne] at hv3
            obtain rfl : v = .nilIface := hv3
            have HCUT := Lib.hid (decA_cut x HOKA.out hbad hne)
            have HMORE : Hid ((ansB x).length < 600 → decA (str (ansB x ++ [c])) = (zeroA, some (3, some ((ansB x).length : Int)))) := Lib.hid (fun h => decA_more x HOKA.out hbad hne (by omega) c)
            generalize ansB x = bs at HCUT HMORE ⊢
            clear hbad hne HV
            have HSS : ∃ S, S = str bs := ⟨_, rfl⟩
            obtain ⟨S, hS⟩ := HSS
            rw [← hS]
            have hSz : bs.length = S.size := by rw [hS, str_size]
            rw [hSz] at HCUT HMORE
            have HSS := Lib.hid hS
            have HBL := Lib.hid hSz
            by_cases h6 : S.size < 600
            · have d6 : (S.size : Int) < 600 := by omega
              have HMORE := Lib.hid (HMORE.out h6)
              clear hS hSz h6
              go_wp2_with fail
              go_loopw [17] (fun iv wr => ∃ i : Nat, iv = .int .i64 i ∧ i ≤ S.size ∧ Ext w2 wr) (fun iv _ => S.size - (RowKit.intOf iv).toNat)
              case atStart => exact ⟨0, rfl, Nat.zero_le _, HUx.out⟩
              case round =>
                obtain ⟨i, rfl, hi, hur⟩ := hrel
                rename World => wr
                have HUR := Lib.hid hur
                clear hur HUx
                by_cases hlt : i < S.size
                · have hli : (i : Int) < S.size := by omega
                  have hi6 : (i : Int) < 600 := by omega
                  have hex : S.extract 0 i = str (bs.take i) := by rw [HSS.out]; exact str_cutQ _ i
                  obtain ⟨k, hk, hdk⟩ := HCUT.out i hlt
                  have C := decA_any (HG.out.ext HUR.out) (str (bs.take i)) (by rw [str_size, List.length_take]; have := HBL.out; omega)
                  rw [hdk] at C
                  have dk : ¬ (i : Int) < (k : Int) := by omega
                  have HLT := Lib.hid hlt
                  clear hdk hk hlt
                  go_wp2_with fail
                  refine C.mono ?_
                  rintro e w5 ⟨a5, cap5, v5, rfl, h5, hv5, u5⟩
                  simp only [ansCells]
                  have X5 := (Upd.refl none' w5).alloc (.cells #[.int .u8 0, .int .u64 0, .slice a5 0 cap5, .string ⟨#[]⟩] 26)
                  have hv6 := hv5.ext X5
                  have HU5 := Lib.hid (HUR.out.trans (u5.trans X5))
                  have hi := (err_form hv5).resolve_left (fun h => by simp at h)
                  obtain ⟨⟨ti, yi, rfl⟩, _⟩ := hi
                  have HV6 := Lib.hid hv6
                  have CA : Calls Tryd.prog 22 #[.iface ti yi] (w5.alloc (.cells #[.int .u8 0, .int .u64 0, .slice a5 0 cap5, .string ⟨#[]⟩] 26)) fun e w' => e = .returned (.tuple #[.int .i64 (k : Int), .bool true]) ∧ Ext (w5.alloc (.cells #[.int .u8 0, .int .u64 0, .slice a5 0 cap5, .string ⟨#[]⟩] 26)) w' := at_any (HG.out.ext HU5.out) hv6
                  clear h5 hv5 hv6 u5 X5 C
                  go_wp2_with fail
                  refine CA.mono ?_
                  rintro e w6 ⟨rfl, u6⟩
                  have CI := isAt_any (HG.out.ext (HU5.out.trans u6)) (HV6.out.ext u6) 3 (k : Int)
                  have eI : isAtB (some (3, some (k : Int))) 3 (k : Int) = true := by simp [isAtB, codeOf, placed, placeOf]
                  rw [eI] at CI
                  have HU6 := Lib.hid (HU5.out.trans u6)
                  clear u6 CA eI
                  go_wp2_with fail
                  refine CI.mono ?_
                  rintro e w7 ⟨rfl, u7⟩
                  have HU7 := Lib.hid (HU6.out.trans u7)
                  clear u7 CI
                  go_wp2_with fail
                  exact ⟨⟨i + 1, by simp, by have := HLT.out; omega, HU7.out⟩, by simp [RowKit.intOf]; have := HLT.out; omega⟩
                · obtain rfl : i = S.size := by omega
                  have hst := run_str_own (wr.alloc (.cells #[.int .u8 (c.toNat : Int)] 5)) (B := wr.heap.size) (xs := [c]) (own_fresh (Upd.refl none' wr) (Nat.le_refl _) (.int .u8 (c.toNat : Int)))
                  have XB := (Upd.refl none' wr).alloc (.cells #[.int .u8 (c.toNat : Int)] 5)
                  have hcat : S ++ str [c] = str (bs ++ [c]) := by rw [HSS.out]; exact str_app _ _
                  have C := decA_any (HG.out.ext (HUR.out.trans XB)) (str (bs ++ [c])) (by rw [str_size, List.length_append]; have := HBL.out; simp; omega)
                  rw [HMORE.out] at C
                  have h63 : ¬ 9223372036854775807 < S.size + (str [c]).size := by
                      have hc1 : (str [c]).size = 1 := (str_size [c]).trans rfl
                      rw [hc1]; omega
                  have XB2 := Lib.hid (HUR.out.trans XB)
                  clear hlt XB HUR
                  have HUR := XB2
                  clear XB2
                  go_wp2_with fail
                  refine C.mono ?_
                  rintro e w5 ⟨a5, cap5, v5, rfl, h5, hv5, u5⟩
                  simp only [ansCells]
                  have X5 := (Upd.refl none' w5).alloc (.cells #[.int .u8 0, .int .u64 0, .slice a5 0 cap5, .string ⟨#[]⟩] 26)
                  have hv6 := hv5.ext X5
                  have HU5 := Lib.hid (HUR.out.trans (u5.trans X5))
                  have hi := (err_form hv5).resolve_left (fun h => by simp at h)
                  obtain ⟨⟨ti, yi, rfl⟩, _⟩ := hi
                  have HV6 := Lib.hid hv6
                  have CI := isAt_any (HG.out.ext HU5.out) hv6 3 (S.size : Int)
                  have eI : isAtB (some (3, some (S.size : Int))) 3 (S.size : Int) = true := by simp [isAtB, codeOf, placed, placeOf]
                  rw [eI] at CI
                  clear h5 hv5 hv6 u5 X5 C eI
                  go_wp2_with fail
                  refine CI.mono ?_
                  rintro e w7 ⟨rfl, u7⟩
                  have HUx := Lib.hid (HU5.out.trans u7)
                  clear u7 CI
                  have CL := alive_any (HG.out.ext HUx.out) (HA.out.ext HUx.out)
                  go_wp2_with fail
                  refine CL.mono ?_
                  rintro e wz ⟨rfl, uz⟩
                  have HUZ := Lib.hid (HUx.out.trans uz)
                  clear uz CL
                  go_wp2_with fail
                  go_ret
                  exact ⟨rfl, HW2.out.trans HUZ.out⟩
            · have d6 : ¬ (S.size : Int) < 600 := by omega
              clear hS hSz h6
              have CL := alive_any (HG.out.ext HUx.out) (HA.out.ext HUx.out)
              go_wp2_with fail
              refine CL.mono ?_
              rintro e wz ⟨rfl, uz⟩
              have HUZ := Lib.hid (HUx.out.trans uz)
              clear uz CL
              go_wp2_with fail
              go_ret
              exact ⟨rfl, HW2.out.trans HUZ.out⟩
          · have hv3 := HV.out
            obtain ⟨ee, hee⟩ := Option.ne_none_iff_exists'.1 hne
            rw [hee] at hv3
            have hi := (err_form hv3).resolve_left (fun h => by simp at h)
            obtain ⟨⟨ti, yi, rfl⟩, _⟩ := hi
            clear hne hv3 hee HV
            have CL := alive_any (HG.out.ext HUx.out) (HA.out.ext HUx.out)
            go_wp2_with fail
            refine CL.mono ?_
            rintro e wz ⟨rfl, uz⟩
            have HUZ := Lib.hid (HUx.out.trans uz)
            clear uz CL
            go_wp2_with fail
            go_ret
            exact ⟨rfl, HW2.out.trans HUZ.out⟩
      · have hv3 := HV.out
        obtain ⟨ee, hee⟩ := Option.ne_none_iff_exists'.1 hne
        rw [hee] at hv3
        have hi := (err_form hv3).resolve_left (fun h => by simp at h)
        obtain ⟨⟨ti, yi, rfl⟩, _⟩ := hi
        clear hne hv3 hee HV
        have hbx := Ext.blk HUx.out HB22.out
        have c0 := cell_of_blk hbx 0
        have c1 := cell_of_blk hbx 1
        have c2 := cell_of_blk hbx 2
        have c3 := cell_of_blk hbx 3
        simp only [List.size_toArray, List.getElem?_toArray, List.getElem?_cons_zero, List.getElem?_cons_succ] at c0 c1 c2 c3
        have CE := encA_any (HG.out.ext HUx.out) x HOKA.out bd cb (HHA.out.later HUx.out)
        simp only [ansCells] at CE
        clear hbx
        go_wp2_with fail
        refine CE.mono ?_
        rintro e wy ⟨v, rfl, hv, u⟩
        have HUy := Lib.hid (HUx.out.trans u)
        have HV := Lib.hid hv
        clear CE c0 c1 c2 c3 hv u HUx
        have HUx := HUy
        clear HUy
        by_cases hne : ansE x = none
        · have hbad : ¬ x.bad := fun hb => by have := (once_bad x hb).1; rw [hne] at this; cases this
          have hv3 := HV.out
          rw [hne] at hv3
          obtain rfl : v = .nilIface := hv3
          have HCUT := Lib.hid (decA_cut x HOKA.out hbad hne)
          have HMORE : Hid ((ansB x).length < 600 → decA (str (ansB x ++ [c])) = (zeroA, some (3, some ((ansB x).length : Int)))) := Lib.hid (fun h => decA_more x HOKA.out hbad hne (by omega) c)
          generalize ansB x = bs at HCUT HMORE ⊢
          clear hbad hne HV
          have HSS : ∃ S, S = str bs := ⟨_, rfl⟩
          obtain ⟨S, hS⟩ := HSS
          rw [← hS]
          have hSz : bs.length = S.size := by rw [hS, str_size]
          rw [hSz] at HCUT HMORE
          have HSS := Lib.hid hS
          have HBL := Lib.hid hSz
          by_cases h6 : S.size < 600
          · have d6 : (S.size : Int) < 600 := by omega
            have HMORE := Lib.hid (HMORE.out h6)
            clear hS hSz h6
            go_wp2_with fail
            go_loopw [17] (fun iv wr => ∃ i : Nat, iv = .int .i64 i ∧ i ≤ S.size ∧ Ext w2 wr) (fun iv _ => S.size - (RowKit.intOf iv).toNat)
            case atStart => exact ⟨0, rfl, Nat.zero_le _, HUx.out⟩
            case round =>
              obtain ⟨i, rfl, hi, hur⟩ := hrel
              rename World => wr
              have HUR := Lib.hid hur
              clear hur HUx
              by_cases hlt : i < S.size
              · have hli : (i : Int) < S.size := by omega
                have hi6 : (i : Int) < 600 := by omega
                have hex : S.extract 0 i = str (bs.take i) := by rw [HSS.out]; exact str_cutQ _ i
                obtain ⟨k, hk, hdk⟩ := HCUT.out i hlt
                have C := decA_any (HG.out.ext HUR.out) (str (bs.take i)) (by rw [str_size, List.length_take]; have := HBL.out; omega)
                rw [hdk] at C
                have dk : ¬ (i : Int) < (k : Int) := by omega
                have HLT := Lib.hid hlt
                clear hdk hk hlt
                go_wp2_with fail
                refine C.mono ?_
                rintro e w5 ⟨a5, cap5, v5, rfl, h5, hv5, u5⟩
                simp only [ansCells]
                have X5 := (Upd.refl none' w5).alloc (.cells #[.int .u8 0, .int .u64 0, .slice a5 0 cap5, .string ⟨#[]⟩] 26)
                have hv6 := hv5.ext X5
                have HU5 := Lib.hid (HUR.out.trans (u5.trans X5))
                have hi := (err_form hv5).resolve_left (fun h => by simp at h)
                obtain ⟨⟨ti, yi, rfl⟩, _⟩ := hi
                have HV6 := Lib.hid hv6
                have CA : Calls Tryd.prog 22 #[.iface ti yi] (w5.alloc (.cells #[.int .u8 0, .int .u64 0, .slice a5 0 cap5, .string ⟨#[]⟩] 26)) fun e w' => e = .returned (.tuple #[.int .i64 (k : Int), .bool true]) ∧ Ext (w5.alloc (.cells #[.int .u8 0, .int .u64 0, .slice a5 0 cap5, .string ⟨#[]⟩] 26)) w' := at_any (HG.out.ext HU5.out) hv6
                clear h5 hv5 hv6 u5 X5 C
                go_wp2_with fail
                refine CA.mono ?_
                rintro e w6 ⟨rfl, u6⟩
                have CI := isAt_any (HG.out.ext (HU5.out.trans u6)) (HV6.out.ext u6) 3 (k : Int)
                have eI : isAtB (some (3, some (k : Int))) 3 (k : Int) = true := by simp [isAtB, codeOf, placed, placeOf]
                rw [eI] at CI
                have HU6 := Lib.hid (HU5.out.trans u6)
                clear u6 CA eI
                go_wp2_with fail
                refine CI.mono ?_
                rintro e w7 ⟨rfl, u7⟩
                have HU7 := Lib.hid (HU6.out.trans u7)
                clear u7 CI
                go_wp2_with fail
                exact ⟨⟨i + 1, by simp, by have := HLT.out; omega, HU7.out⟩, by simp [RowKit.intOf]; have := HLT.out; omega⟩
              · obtain rfl : i = S.size := by omega
                have hst := run_str_own (wr.alloc (.cells #[.int .u8 (c.toNat : Int)] 5)) (B := wr.heap.size) (xs := [c]) (own_fresh (Upd.refl none' wr) (Nat.le_refl _) (.int .u8 (c.toNat : Int)))
                have XB := (Upd.refl none' wr).alloc (.cells #[.int .u8 (c.toNat : Int)] 5)
                have hcat : S ++ str [c] = str (bs ++ [c]) := by rw [HSS.out]; exact str_app _ _
                have C := decA_any (HG.out.ext (HUR.out.trans XB)) (str (bs ++ [c])) (by rw [str_size, List.length_append]; have := HBL.out; simp; omega)
                rw [HMORE.out] at C
                have h63 : ¬ 9223372036854775807 < S.size + (str [c]).size := by
                    have hc1 : (str [c]).size = 1 := (str_size [c]).trans rfl
                    rw [hc1]; omega
                have XB2 := Lib.hid (HUR.out.trans XB)
                clear hlt XB HUR
                have HUR := XB2
                clear XB2
                go_wp2_with fail
                refine C.mono ?_
                rintro e w5 ⟨a5, cap5, v5, rfl, h5, hv5, u5⟩
                simp only [ansCells]
                have X5 := (Upd.refl none' w5).alloc (.cells #[.int .u8 0, .int .u64 0, .slice a5 0 cap5, .string ⟨#[]⟩] 26)
                have hv6 := hv5.ext X5
                have HU5 := Lib.hid (HUR.out.trans (u5.trans X5))
                have hi := (err_form hv5).resolve_left (fun h => by simp at h)
                obtain ⟨⟨ti, yi, rfl⟩, _⟩ := hi
                have HV6 := Lib.hid hv6
                have CI := isAt_any (HG.out.ext HU5.out) hv6 3 (S.size : Int)
                have eI : isAtB (some (3, some (S.size : Int))) 3 (S.size : Int) = true := by simp [isAtB, codeOf, placed, placeOf]
                rw [eI] at CI
                clear h5 hv5 hv6 u5 X5 C eI
                go_wp2_with fail
                refine CI.mono ?_
                rintro e w7 ⟨rfl, u7⟩
                have HUx := Lib.hid (HU5.out.trans u7)
                clear u7 CI
                have CL := alive_any (HG.out.ext HUx.out) (HA.out.ext HUx.out)
                go_wp2_with fail
                refine CL.mono ?_
                rintro e wz ⟨rfl, uz⟩
                have HUZ := Lib.hid (HUx.out.trans uz)
                clear uz CL
                go_wp2_with fail
                go_ret
                exact ⟨rfl, HW2.out.trans HUZ.out⟩
          · have d6 : ¬ (S.size : Int) < 600 := by omega
            clear hS hSz h6
            have CL := alive_any (HG.out.ext HUx.out) (HA.out.ext HUx.out)
            go_wp2_with fail
            refine CL.mono ?_
            rintro e wz ⟨rfl, uz⟩
            have HUZ := Lib.hid (HUx.out.trans uz)
            clear uz CL
            go_wp2_with fail
            go_ret
            exact ⟨rfl, HW2.out.trans HUZ.out⟩
        · have hv3 := HV.out
          obtain ⟨ee, hee⟩ := Option.ne_none_iff_exists'.1 hne
          rw [hee] at hv3
          have hi := (err_form hv3).resolve_left (fun h => by simp at h)
          obtain ⟨⟨ti, yi, rfl⟩, _⟩ := hi
          clear hne hv3 hee HV
          have CL := alive_any (HG.out.ext HUx.out) (HA.out.ext HUx.out)
          go_wp2_with fail
          refine CL.mono ?_
          rintro e wz ⟨rfl, uz⟩
          have HUZ := Lib.hid (HUx.out.trans uz)
          clear uz CL
          go_wp2_with fail
          go_ret
          exact ⟨rfl, HW2.out.trans HUZ.out⟩
/-- .. the byte told as an int. -/
theorem cut_int {B : Nat} {se : Nat → Addr} {w : World} (G : Genv B se w) (A : Asks B w) (q : QryD) (hq : q.Ok) (ad : Option Addr) (ca : Nat) (hx : TextsAt w ad q.leaves) (hsz : sizes q.leaves + q.leaves.length ≤ 1048576) (x : AnsD) (ok : x.Ok) (bd : Option Addr) (cb : Nat) (hh : HashesAt w bd x.hs) (k : Int) (h0 : 0 ≤ k) (h1 : k < 256) :
    Calls Tryd.prog 6 #[.agg (qCells q (.slice ad q.leaves.length ca)).toArray, .agg (ansCells x (.slice bd x.hs.length cb)), .int .u8 k] w fun e w' => e = .returned (.bool true) ∧ Ext w w' := by
  have e : k = (k.toNat.toUInt8.toNat : Int) := by rw [toU8 _ (by omega)]; omega
  have C := cut_any G A q hq ad ca hx hsz x ok bd cb hh k.toNat.toUInt8
  rw [← e] at C
  exact C
end Go.Proofs.YtkdhjighomnooaaDoor
