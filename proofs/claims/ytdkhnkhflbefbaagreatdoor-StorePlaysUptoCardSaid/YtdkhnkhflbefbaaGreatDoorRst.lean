/- The document's store by contracts: what lies in memory; Plain, May, twin, New, name. The document's store by contracts: twin, New, Restart, Counts, Dead. -/
import Derived.Test.YtdkhnkhflbefbaaGreatDoorFlPlain2
import Derived.Test.YtdkhnkhflbefbaaGreatDoorFaultV
import Derived.Test.YtdkhnkhflbefbaaGreatDoorApp
namespace Go.Proofs.YtdkhnkhflbefbaaGreatDoor
open Go.RowKit Go.Lib


theorem plainF (c : Int) (hc : c ≠ 0) (w : World) : Calls Tryz.prog 18 #[.int .i64 c] w fun e w' => e = .returned (.agg #[.int .i64 c, .int .i64 (-1)]) ∧ Ext w w' := by
  have hb : (c == 0) = false := by simpa using hc
  clear hc
  go_enter Tryz.func18, Tryz.ntmps18
  go_wp2
  exact bodyPost_ret (v := .agg #[.int .i64 c, .int .i64 (-1)]) (by simp [results, Tryz.results18, go_sem]) rfl ⟨rfl, by repeat (first | exact Upd.refl _ _ | apply Upd.alloc | refine Upd.setCell ?_ (.inl (Nat.le_refl _)) _)⟩
abbrev rstRow (av tv : Value) (x : StD) : Array Value := #[av, tv, .int .i64 x.crash, .int .i64 (x.nr : Int), .int .i64 (x.nw : Int), .bool x.dead]
/-- The document's store at block b: its texts behind av, its trouble's reads behind tv; the rows are of blocks from B on. -/
structure RStAt (B : Nat) (w : World) (b : Nat) (av tv : Value) (x : StD) : Prop where
  blk : w.heap[b]? = some (.cells (rstRow av tv x) 75 (0, 0))
  all : w.ownsRow B 103 2 av x.texts.length (wrCells x.texts)
  row : w.ownsRow B 3 1 tv x.rs.length (x.rs.map (Value.int .i64))
theorem RStAt.avb {B : Nat} {w : World} {b : Nat} {av tv : Value} {x : StD} (h : RStAt B w b av tv x) : av.ownBlock ≠ some b := fun e => by
  obtain ⟨c, hb⟩ := row_type h.all e
  rw [h.blk] at hb
  simp only [Option.some.injEq, Obj.cells.injEq] at hb
  exact absurd hb.2.1 (by decide)
theorem RStAt.tvb {B : Nat} {w : World} {b : Nat} {av tv : Value} {x : StD} (h : RStAt B w b av tv x) : tv.ownBlock ≠ some b := fun e => by
  obtain ⟨c, hb⟩ := row_type h.row e
  rw [h.blk] at hb
  simp only [Option.some.injEq, Obj.cells.injEq] at hb
  exact absurd hb.2.1 (by decide)
theorem RStAt.upd {B : Nat} {w w' : World} {b : Nat} {av tv : Value} {x : StD} {S : Nat → Prop} (h : RStAt B w b av tv x) (u : Upd S w w') (hb : ¬ S b) (ha : ∀ g, av.ownBlock = some g → ¬ S g) (ht : ∀ g, tv.ownBlock = some g → ¬ S g) : RStAt B w' b av tv x :=
  ⟨u.blk h.blk hb, rows_upd h.all u ha, rows_upd h.row u ht⟩
theorem RStAt.ext {B : Nat} {w w' : World} {b : Nat} {av tv : Value} {x : StD} (h : RStAt B w b av tv x) (u : Ext w w') : RStAt B w' b av tv x := h.upd u id (fun _ _ => id) (fun _ _ => id)
theorem rname_any (s : ByteArray) (hs : s.size ≤ 9223372036854775807) (w : World) : Calls Tryz.prog 92 #[.string s] w fun e w' => e = .returned (.bool (nameOk s)) ∧ w = w' := by
  by_cases h1 : 1 ≤ s.size
  · by_cases h2 : s.size ≤ 256
    · have HN := Lib.hid (show nameOk s = true from decide_eq_true ⟨h1, h2⟩)
      have d1 : (1 : Int) ≤ s.size := by omega
      have d2 : (s.size : Int) ≤ 256 := by omega
      go_enter Tryz.func92, Tryz.ntmps92
      go_wp2_with fail
      go_ret
      exact ⟨by rw [HN.out]; rfl, rfl⟩
    · have HN := Lib.hid (show nameOk s = false from decide_eq_false (fun h => h2 h.2))
      have d1 : (1 : Int) ≤ s.size := by omega
      have d2 : ¬ (s.size : Int) ≤ 256 := by omega
      go_enter Tryz.func92, Tryz.ntmps92
      go_wp2_with fail
      go_ret
      exact ⟨by rw [HN.out]; rfl, rfl⟩
  · have HN := Lib.hid (show nameOk s = false from decide_eq_false (fun h => h1 h.1))
    have d1 : ¬ (1 : Int) ≤ s.size := by omega
    go_enter Tryz.func92, Tryz.ntmps92
    go_wp2_with fail
    go_ret
    exact ⟨by rw [HN.out]; rfl, rfl⟩
set_option maxRecDepth 20000 in
set_option maxHeartbeats 4000000 in
theorem rmay_any (a : Option Addr) (zs : List Int) (cap : Nat) (c : Int) (w : World) (h : RdsAt w a zs) (hz : zs.length ≤ 4611686018427387904) :
    Calls Tryz.prog 17 #[.agg #[.slice a zs.length cap, .int .i64 c]] w fun e w' => e = .returned (.bool (mayR zs)) ∧ Ext w w' := by
  have X := (Upd.refl none' w).alloc (.cells #[.slice a zs.length cap, .int .i64 c] 24)
  have hb := blk_alloc w (.cells #[.slice a zs.length cap, .int .i64 c] 24)
  have HX := Lib.hid X
  have HBX := Lib.hid hb
  have HRD := Lib.hid h
  have HZ := Lib.hid hz
  have HSZ := Lib.hid (show w.heap.size ≤ w.heap.size from Nat.le_refl _)
  clear h X hb hz
  go_enter Tryz.func17, Tryz.ntmps17
  go_wp2_with fail
  generalize hW : w.alloc (.cells #[.slice a zs.length cap, .int .i64 c] 24) = W at *
  clear hW
  generalize w.heap.size = q at *
  go_loopw [3] (fun iv wr => RiseRel zs W iv wr) (fun iv _ => zs.length - (RowKit.intOf iv).toNat)
  case atStart => exact ⟨0, rfl, Nat.zero_le _, Int.le_refl _, rfl, Upd.refl _ _⟩
  case round =>
    obtain ⟨k, rfl, hk, h0, hm, hX⟩ := hrel
    have HX2 := Lib.hid hX
    have HM := Lib.hid hm
    have HB2 := Lib.hid (Ext.blk hX HBX.out)
    clear hX hm
    have b0 : wr.cell? ⟨q, 0, none⟩ = some (.slice a zs.length cap) := cell_of_blk HB2.out 0
    by_cases hlt : k < zs.length
    · have hki : (k : Int) < zs.length := by omega
      have hkb : k < 4611686018427387904 := by have := HZ.out; omega
      obtain ⟨g, off, rfl, c0⟩ := cell_int_at (HRD.out.ext (HX.out.trans HX2.out)) k hlt
      have HNO : Hid (zs[k] ≤ lastR zs k → mayR zs = false) := Lib.hid (rise_no hlt HM.out)
      have HYES : Hid (¬ zs[k] ≤ lastR zs k → mayFrom (lastR zs (k + 1)) (zs.drop (k + 1)) = mayR zs) := Lib.hid (rise_yes hlt HM.out)
      have HLS := Lib.hid (lastR_succ zs k hlt)
      cases k with
      | zero =>
        rw [lastR_zero] at HNO HYES
        obtain ⟨x, hx⟩ : ∃ x, zs[0] = x := ⟨_, rfl⟩
        rw [hx] at c0 HNO HYES HLS
        clear hx
        simp only [Nat.add_zero] at c0
        by_cases hx1 : x < 1
        · have HBAD := Lib.hid (HNO.out (by omega))
          have hd : decide (x < 1) = true := decide_eq_true hx1
          clear hx1
          go_wp2_with fail
          go_quiet (fail)
          go_wp2_with fail
          go_ret
          exact ⟨by rw [HBAD.out]; rfl, HX.out.trans (HX2.out.drewN _)⟩
        · have HNX := Lib.hid (HYES.out (by omega))
          have HX1 := Lib.hid hx1
          have hd : decide (x < 1) = false := decide_eq_false hx1
          clear hx1
          go_wp2_with fail
          go_quiet (fail)
          go_wp2_with fail
          go_roundw
          case rel => exact ⟨1, by simp, by omega, by rw [show lastR zs 1 = x from HLS.out]; have := HX1.out; omega, HNX.out, HX2.out.drewN _⟩
          case measure => simp [RowKit.intOf] <;> omega
      | succ j =>
        have hjl : j < zs.length := by omega
        obtain ⟨g2, off2, hg2, c1⟩ := cell_int_at (HRD.out.ext (HX.out.trans HX2.out)) j hjl
        obtain ⟨rfl, rfl⟩ : g = g2 ∧ off = off2 := by simpa using hg2
        rw [lastR_succ zs j hjl] at HNO HYES h0
        obtain ⟨x, hx⟩ : ∃ x, zs[j + 1] = x := ⟨_, rfl⟩
        obtain ⟨y, hy⟩ : ∃ y, zs[j] = y := ⟨_, rfl⟩
        rw [hx] at c0 HNO HYES HLS
        rw [hy] at c1 HNO HYES h0
        have hw1 : IntKind.i64.wrap (((j + 1 : Nat) : Int) - 1) = j := (IntWalk.i64_in _ (by omega)).trans (by omega)
        have hjp : (0 : Int) < ((j + 1 : Nat) : Int) := by omega
        have hji : (j : Int) < zs.length := by omega
        clear hx hy hg2
        by_cases hx1 : x < 1
        · have HBAD := Lib.hid (HNO.out (by omega))
          have hd : decide (x < 1) = true := decide_eq_true hx1
          clear hx1
          go_wp2_with fail
          go_quiet (fail)
          go_wp2_with fail
          go_ret
          exact ⟨by rw [HBAD.out]; rfl, HX.out.trans (HX2.out.drewN _)⟩
        · have HX1 := Lib.hid hx1
          have hd : decide (x < 1) = false := decide_eq_false hx1
          clear hx1
          by_cases hx2 : x ≤ y
          · have HBAD := Lib.hid (HNO.out hx2)
            have hd2 : decide (x ≤ y) = true := decide_eq_true hx2
            clear hx2
            go_wp2_with fail
            go_quiet (fail)
            go_wp2_with fail
            go_ret
            exact ⟨by rw [HBAD.out]; rfl, HX.out.trans (HX2.out.drewN _)⟩
          · have HNX := Lib.hid (HYES.out hx2)
            have hd2 : decide (x ≤ y) = false := decide_eq_false hx2
            clear hx2
            go_wp2_with fail
            go_quiet (fail)
            go_wp2_with fail
            go_roundw
            case rel => exact ⟨j + 2, by simp; omega, by omega, by rw [show lastR zs (j + 2) = x from HLS.out]; have := HX1.out; omega, HNX.out, HX2.out.drewN _⟩
            case measure => simp [RowKit.intOf] <;> omega
    · obtain rfl : k = zs.length := by omega
      have hki : ¬ (zs.length : Int) < zs.length := by omega
      have HR := Lib.hid (rise_all HM.out)
      go_wp2_with fail
      go_ret
      exact ⟨by rw [HR.out]; rfl, HX.out.trans HX2.out⟩

theorem rds_cells {w : World} {a : Option Addr} {zs : List Int} (h : RdsAt w a zs) : CellsAt w a (zs.map (Value.int .i64)) := fun j u hu => by
  rw [List.getElem?_map] at hu
  cases hz : zs[j]? with
  | none => rw [hz] at hu; cases hu
  | some x =>
    rw [hz] at hu
    obtain rfl := Option.some.inj hu
    obtain ⟨g, off, e, hc⟩ := h j x hz
    have ea : (⟨g, off, none⟩ : Addr).add j = ⟨g, off + j, none⟩ := by unfold Addr.add; split <;> simp_all
    exact ⟨_, e, by rw [ea]; exact hc⟩
set_option maxRecDepth 20000 in
set_option maxHeartbeats 8000000 in
theorem rtwin_any (a : Option Addr) (zs : List Int) (cap : Nat) (c : Int) (w : World) (h : RdsAt w a zs) (hz : zs.length ≤ 4398046511104) :
    Calls Tryz.prog 19 #[.agg #[.slice a zs.length cap, .int .i64 c]] w fun e w' => ∃ v, e = .returned (.agg #[v, .int .i64 c]) ∧ w'.ownsRow w.heap.size 3 1 v zs.length (zs.map (Value.int .i64)) ∧ Ext w w' := by
  obtain ⟨i0, hi0, hz0, hz1, hz2⟩ := info_parts info_int
  have X := ((Upd.refl none' w).alloc (.cells #[.slice a zs.length cap, .int .i64 c] 24)).alloc (.cells #[.slice none 0 0, .int .i64 0] 24)
  have hb := blk_alloc_lt (blk_alloc w (.cells #[.slice a zs.length cap, .int .i64 c] 24)) (.cells #[.slice none 0 0, .int .i64 0] 24)
  have b0 : World.cell? _ ⟨w.heap.size, 0, none⟩ = some (.slice a zs.length cap) := cell_of_blk hb 0
  have b1 : World.cell? _ ⟨w.heap.size, 1, none⟩ = some (.int .i64 c) := cell_of_blk hb 1
  have HNEW := Lib.hid (rds_cells ((h.ext X).ext (Upd.refl none' _).drew))
  have HX := Lib.hid X
  have HM := Lib.hid (show 0 + zs.length ≤ maxLen ∧ (0 + zs.length) * 8 ≤ 140737488355328 by unfold maxLen; omega)
  have H1 := Lib.hid (ints_one zs)
  have HLN := Lib.hid (show (zs.map (Value.int .i64)).length = zs.length * 1 by simp)
  have HSZ := Lib.hid (show w.heap.size ≤ (((w.alloc (.cells #[.slice a zs.length cap, .int .i64 c] 24)).alloc (.cells #[.slice none 0 0, .int .i64 0] 24)).drew).heap.size from X.drew.size)
  have hb2 := blk_alloc (w.alloc (.cells #[.slice a zs.length cap, .int .i64 c] 24)) (.cells #[.slice none 0 0, .int .i64 0] 24)
  rw [World.size_alloc] at hb2
  have HQ := Lib.hid (fun (w1 : World) (e1 : Ext (((w.alloc (.cells #[.slice a zs.length cap, .int .i64 c] 24)).alloc (.cells #[.slice none 0 0, .int .i64 0] 24)).drew) w1) =>
    (⟨cell_of_blk (Ext.blk e1 hb) 1, cell_of_blk (Ext.blk e1 hb2) 0, cell_of_blk (Ext.blk e1 hb2) 1, free_of_blk (Ext.blk e1 hb2) 0, free_of_blk (Ext.blk e1 hb2) 1⟩ :
      w1.cell? ⟨w.heap.size, 1, none⟩ = some (.int .i64 c) ∧ w1.cell? ⟨w.heap.size + 1, 0, none⟩ = some (.slice none 0 0) ∧ w1.cell? ⟨w.heap.size + 1, 1, none⟩ = some (.int .i64 0) ∧ w1.frozen? ⟨w.heap.size + 1, 0, none⟩ = false ∧ w1.frozen? ⟨w.heap.size + 1, 1, none⟩ = false))
  have HB2 := Lib.hid hb2
  clear X hb hb2 h hz
  go_enter Tryz.func19, Tryz.ntmps19
  go_wp2_with fail
  go_region_law (refine step_appX (by rfl) _ _ 22 (by rfl) w.heap.size 3 i0 _ 1 8 Tryz.underlying22 hi0 hz0 hz1 hz2 rfl (by decide) (.slice none 0 0) 0 [] (by rfl) ⟨rfl, .inl ⟨rfl, rfl⟩⟩ a zs.length cap (zs.map (Value.int .i64)) (by rfl) HLN.out HNEW.out H1.out HM.out.1 HM.out.2 HSZ.out ?_; intro A' c' w1 hown1 hgrow hat; have e1 := (Upd.refl none' _).grown hgrow (fun k hk => by cases hk); have x0 := HQ.out w1 e1; obtain ⟨x1, x2, x3, x4, x5⟩ := x0)
  all_goals
    have hq := blk_set (blk_set (Ext.blk e1 HB2.out) 0 (.slice A' zs.length c')) 1 (.int .i64 c)
    have hrow : w1.ownsRow w.heap.size 3 1 (.slice A' zs.length c') zs.length (zs.map (Value.int .i64)) := by simpa using hown1
    have hne : ∀ g, (Value.slice A' zs.length c').ownBlock = some g → g ≠ w.heap.size + 1 := fun g hg e => by
      obtain ⟨cl, hcl⟩ := row_type hrow hg
      rw [e, Ext.blk e1 HB2.out] at hcl
      simp only [Option.some.injEq, Obj.cells.injEq] at hcl
      exact absurd hcl.2.1 (by decide)
    have U1 := ((Upd.refl (one (w.heap.size + 1)) w1).setCell (p := ⟨w.heap.size + 1, 0, none⟩) (.inr rfl) (.slice A' zs.length c')).setCell (p := ⟨w.heap.size + 1, 1, none⟩) (.inr rfl) (.int .i64 c)
    have HX1 := (HX.out.drew).trans e1
    go_wp2_with fail
    refine bodyPost_ret (v := .agg #[.slice A' zs.length c', .int .i64 c]) (results_cell_row rfl _ _ (w.heap.size + 1) 24 #[.slice A' zs.length c', .int .i64 c] (0, 0) _ rfl hq Tryz.underlying24 rfl (by kernel_rfl)) rfl ⟨_, rfl, rows_upd hrow U1 (fun g hg e => hne g hg e), HX1.then U1 (fun k hk e => by have : k = w.heap.size + 1 := e; omega)⟩
theorem results_tmp_cell {P : Program} {fn : Func} {p u : Tmp} {ty : TypeId} (h : fn.results = #[.tmp u, .cell p ty]) (tmps : Array Value) (w : World) (g : Nat) (t : TypeId) (cs : Array Value) (fr : Nat × Nat) (d : TypeDesc) (v : Value) (hv : tmps.getD u undef = v)
    (hp : tmps.getD p undef = .pointer (some ⟨g, 0, none⟩)) (hg : w.heap[g]? = some (.cells cs t fr))
    (hu : P.underlying ty = some d) (hd : (match d with | .struct _ | .array _ _ => true | _ => false) = true) (hi : (P.info? ty).map (·.size) = some cs.size) :
    (results fn tmps).run P w = .ok (.tuple #[v, .agg cs]) w := by
  have hp' : tmps[p]?.getD undef = .pointer (some ⟨g, 0, none⟩) := by simpa using hp
  have hv' : tmps[u]?.getD undef = v := by simpa using hv
  simp [results, h, hp', hv', asAddr, run_loadVar_row w g t ty cs fr d hg hu hd hi]
theorem upd_set2 (W : World) (b i j : Nat) (u v : Value) : Upd (one b) W ((W.setCell ⟨b, i, none⟩ u).setCell ⟨b, j, none⟩ v) := ((Upd.refl (one b) W).setCell (p := ⟨b, i, none⟩) (.inr rfl) u).setCell (p := ⟨b, j, none⟩) (.inr rfl) v
theorem own_low {w : World} {B B' : Nat} {e : TypeId} {size n : Nat} {v : Value} {xs : List Value} (h : w.ownsRow B e size v n xs) (hB : B' ≤ B) : w.ownsRow B' e size v n xs := by
  refine ⟨h.1, ?_⟩
  rcases h.2 with h0 | ⟨g, cap, cur, hv, hb, rest⟩
  · exact .inl h0
  · exact .inr ⟨g, cap, cur, hv, Nat.le_trans hB hb, rest⟩
theorem size_fault : (Tryz.prog.info? 35).map (·.size) = some 2 := by kernel_rfl
set_option maxRecDepth 20000 in
set_option maxHeartbeats 8000000 in
theorem rnew_no (a : Option Addr) (zs : List Int) (cap : Nat) (c : Int) (w : World) (h : RdsAt w a zs) (hz : zs.length ≤ 4398046511104) (hm : mayR zs = false) :
    Calls Tryz.prog 7 #[.agg #[.slice a zs.length cap, .int .i64 c]] w fun e w' => e = .returned (.tuple #[.pointer none, .agg #[.int .i64 2, .int .i64 (-1)]]) ∧ Ext w w' := by
  have X := ((Upd.refl none' w).alloc (.cells #[.slice a zs.length cap, .int .i64 c] 24)).alloc (.cells #[.int .i64 0, .int .i64 0] 35)
  have hb := blk_alloc_lt (blk_alloc w (.cells #[.slice a zs.length cap, .int .i64 c] 24)) (.cells #[.int .i64 0, .int .i64 0] 35)
  have hf := blk_alloc (w.alloc (.cells #[.slice a zs.length cap, .int .i64 c] 24)) (.cells #[.int .i64 0, .int .i64 0] 35)
  rw [World.size_alloc] at hf
  have b0 : World.cell? _ ⟨w.heap.size, 0, none⟩ = some (.slice a zs.length cap) := cell_of_blk hb 0
  have b1 : World.cell? _ ⟨w.heap.size, 1, none⟩ = some (.int .i64 c) := cell_of_blk hb 1
  have C := rmay_any a zs cap c _ (h.ext X) (by omega)
  rw [hm] at C
  have HX := Lib.hid X
  have HF := Lib.hid hf
  clear X hb hf h hz hm
  go_enter Tryz.func7, Tryz.ntmps7
  go_wp2_with fail
  refine C.mono ?_
  rintro e w1 ⟨rfl, u⟩
  have HX1 := Lib.hid (HX.out.trans u)
  have HF1 := Lib.hid (Ext.blk u HF.out)
  have CP := plainF 2 (by decide) w1
  clear u C b0 b1
  go_wp2_with fail
  refine CP.mono ?_
  rintro e w2 ⟨rfl, u⟩
  have HX2 := Lib.hid (HX1.out.trans u)
  have hf2 := Ext.blk u HF1.out
  have HF2 := Lib.hid hf2
  have f0 := free_of_blk hf2 0
  have f1 := free_of_blk hf2 1
  have k0 : w2.cell? ⟨w.heap.size + 1, 0, none⟩ = some (.int .i64 0) := cell_of_blk hf2 0
  have k1 : w2.cell? ⟨w.heap.size + 1, 1, none⟩ = some (.int .i64 0) := cell_of_blk hf2 1
  clear u CP hf2
  go_wp2_with fail
  have hq := blk_set (blk_set HF2.out 0 (.int .i64 2)) 1 (.int .i64 (-1))
  refine bodyPost_ret (v := .tuple #[.pointer none, .agg #[.int .i64 2, .int .i64 (-1)]]) (results_tmp_cell rfl _ _ (w.heap.size + 1) 35 #[.int .i64 2, .int .i64 (-1)] (0, 0) _ _ rfl rfl hq Tryz.underlying35 rfl size_fault) rfl ⟨rfl, ?_⟩
  exact (HX2.out.setCell (p := ⟨w.heap.size + 1, 0, none⟩) (.inl (by simp)) _).setCell (p := ⟨w.heap.size + 1, 1, none⟩) (.inl (by simp)) _
set_option maxRecDepth 20000 in
set_option maxHeartbeats 8000000 in
theorem rnew_ok (a : Option Addr) (zs : List Int) (cap : Nat) (c : Int) (w : World) (h : RdsAt w a zs) (hz : zs.length ≤ 4398046511104) (hm : mayR zs = true) :
    Calls Tryz.prog 7 #[.agg #[.slice a zs.length cap, .int .i64 c]] w fun e w' => ∃ b tv, e = .returned (.tuple #[.pointer (some ⟨b, 0, none⟩), .agg #[.int .i64 0, .int .i64 0]]) ∧ RStAt w.heap.size w' b (.slice none 0 0) tv ⟨[], zs, c, 0, 0, false⟩ ∧ w.heap.size ≤ b ∧ Ext w w' := by
  have X := ((Upd.refl none' w).alloc (.cells #[.slice a zs.length cap, .int .i64 c] 24)).alloc (.cells #[.int .i64 0, .int .i64 0] 35)
  have hb := blk_alloc_lt (blk_alloc w (.cells #[.slice a zs.length cap, .int .i64 c] 24)) (.cells #[.int .i64 0, .int .i64 0] 35)
  have hf := blk_alloc (w.alloc (.cells #[.slice a zs.length cap, .int .i64 c] 24)) (.cells #[.int .i64 0, .int .i64 0] 35)
  rw [World.size_alloc] at hf
  have b0 : World.cell? _ ⟨w.heap.size, 0, none⟩ = some (.slice a zs.length cap) := cell_of_blk hb 0
  have b1 : World.cell? _ ⟨w.heap.size, 1, none⟩ = some (.int .i64 c) := cell_of_blk hb 1
  have C := rmay_any a zs cap c _ (h.ext X) (by omega)
  rw [hm] at C
  have HX := Lib.hid X
  have HB := Lib.hid hb
  have HF := Lib.hid hf
  have HRD := Lib.hid (h.ext X)
  have HZ := Lib.hid hz
  clear X hb hf h hz hm
  go_enter Tryz.func7, Tryz.ntmps7
  go_wp2_with fail
  refine C.mono ?_
  rintro e w1 ⟨rfl, u⟩
  have HX1 := Lib.hid (HX.out.trans u)
  have HF1 := Lib.hid (Ext.blk u HF.out)
  have hb1 := Ext.blk u HB.out
  have b0 : w1.cell? ⟨w.heap.size, 0, none⟩ = some (.slice a zs.length cap) := cell_of_blk hb1 0
  have b1 : w1.cell? ⟨w.heap.size, 1, none⟩ = some (.int .i64 c) := cell_of_blk hb1 1
  have CT := rtwin_any a zs cap c w1 (HRD.out.ext u) HZ.out
  clear u C hb1
  go_wp2_with fail
  refine CT.mono ?_
  rintro e w2 ⟨v, rfl, hrow, u⟩
  obtain ⟨A, vc, rfl⟩ := own_sl hrow
  have HR := Lib.hid hrow
  have HX2 := Lib.hid (HX1.out.trans u)
  have hf2 := Ext.blk u HF1.out
  have HF2 := Lib.hid hf2
  have HS2 := Lib.hid (show w.heap.size + 1 < w2.heap.size from lt_of_blk hf2)
  have HB1 := Lib.hid HX1.out.size
  clear u CT b0 b1 hf2
  have hfq := blk_alloc_lt HF2.out (.cells (rstRow (.slice none 0 0) (.slice A zs.length vc) ⟨[], zs, c, 0, 0, false⟩) 75)
  have f0 := free_of_blk hfq 0
  have f1 := free_of_blk hfq 1
  have k0 : World.cell? _ ⟨w.heap.size + 1, 0, none⟩ = some (.int .i64 0) := cell_of_blk hfq 0
  have k1 : World.cell? _ ⟨w.heap.size + 1, 1, none⟩ = some (.int .i64 0) := cell_of_blk hfq 1
  have HFQ := Lib.hid hfq
  clear hfq
  simp only [rstRow, Int.natCast_zero] at f0 f1 k0 k1 HFQ
  go_wp2_with fail
  have hq := blk_set (blk_set HFQ.out 0 (.int .i64 0)) 1 (.int .i64 0)
  have hsz := HS2.out
  have hs0 := HB1.out
  have U := (((Upd.refl none' w2).alloc (.cells #[.slice none 0 0, .slice A zs.length vc, .int .i64 c, .int .i64 0, .int .i64 0, .bool false] 75)))
  have hs := (blk_set_ne (blk_set_ne (blk_alloc w2 (.cells #[.slice none 0 0, .slice A zs.length vc, .int .i64 c, .int .i64 0, .int .i64 0, .bool false] 75)) (p := ⟨w.heap.size + 1, 0, none⟩) (show w2.heap.size ≠ w.heap.size + 1 by omega) (.int .i64 0)) (p := ⟨w.heap.size + 1, 1, none⟩) (show w2.heap.size ≠ w.heap.size + 1 by omega) (.int .i64 0))
  have hne : ∀ g, (Value.slice A zs.length vc).ownBlock = some g → g ≠ w.heap.size + 1 := fun g hg e => by
    obtain ⟨cl, hcl⟩ := row_type HR.out hg
    rw [e, HF2.out] at hcl
    simp only [Option.some.injEq, Obj.cells.injEq] at hcl
    exact absurd hcl.2.1 (by decide)
  refine bodyPost_ret (v := .tuple #[.pointer (some ⟨w2.heap.size, 0, none⟩), .agg #[.int .i64 0, .int .i64 0]]) (results_tmp_cell rfl _ _ (w.heap.size + 1) 35 #[.int .i64 0, .int .i64 0] (0, 0) _ _ rfl rfl hq Tryz.underlying35 rfl size_fault) rfl ⟨w2.heap.size, .slice A zs.length vc, rfl, ⟨hs, ⟨rfl, .inl ⟨rfl, rfl⟩⟩, ?_⟩, by omega, ?_⟩
  · exact rows_upd (rows_upd (own_low HR.out hs0) U (fun _ _ => id)) (upd_set2 _ (w.heap.size + 1) 0 1 _ _) (fun g hg e => hne g hg e)
  · exact (HX2.out.trans U).then (upd_set2 _ (w.heap.size + 1) 0 1 _ _) (fun k hk e => by have : k = w.heap.size + 1 := e; omega)
end Go.Proofs.YtdkhnkhflbefbaaGreatDoor
