/- cartularyref27's fields, number, has, engine, May by contracts. cartularyref27.May by a contract. cartularyref27.EncodeQuery, plainly: its bytes letter by letter, its limits, beside the program's. cartularyref27.EncodeQuery by a contract: the same bytes, the same error. -/
import Derived.Test.YtljnhelnmnomoaaGreatDoorRefOps
import Derived.Test.YtljnhelnmnomoaaGreatDoorTyped
import Derived.Test.YtljnhelnmnomoaaGreatDoorEncQ
namespace Go.Proofs.YtljnhelnmnomoaaGreatDoor
open Go.RowKit Go.Lib


/-- The letters of a kind's fields. -/
def letL : Nat → List UInt8
  | 2 => [83] | 3 => [73, 83] | 4 => [79, 83] | 5 => [66, 69, 83] | 6 => [73] | 7 => [76] | _ => []
def idxL (c : UInt8) : Nat := if c = 83 then 0 else if c = 73 then 1 else if c = 79 then 2 else if c = 66 then 3 else 4
theorem fields_any (k : Nat) (w : World) : Calls Tryz.prog 34 #[.int .u8 k] w fun e w' => e = .returned (.tuple #[.string (str (letL k)), .bool (askE k), .bool (okQ k)]) ∧ w = w' := by
  rcases (show k = 1 ∨ k = 2 ∨ k = 3 ∨ k = 4 ∨ k = 5 ∨ k = 6 ∨ k = 7 ∨ (k ≠ 1 ∧ k ≠ 2 ∧ k ≠ 3 ∧ k ≠ 4 ∧ k ≠ 5 ∧ k ≠ 6 ∧ k ≠ 7) by omega) with rfl | rfl | rfl | rfl | rfl | rfl | rfl | h
  iterate 7
    go_enter Tryz.func34, Tryz.ntmps34
    go_wp2_with fail
    go_ret3
    exact ⟨rfl, rfl⟩
  have d1 : ((k : Int) == 1) = false := by simp; omega
  have d2 : ((k : Int) == 2) = false := by simp; omega
  have d3 : ((k : Int) == 3) = false := by simp; omega
  have d4 : ((k : Int) == 4) = false := by simp; omega
  have d5 : ((k : Int) == 5) = false := by simp; omega
  have d6 : ((k : Int) == 6) = false := by simp; omega
  have d7 : ((k : Int) == 7) = false := by simp; omega
  have e1 : letL k = [] := by unfold letL; split <;> first | omega | rfl
  have e2 : askE k = false := by unfold askE; simp; omega
  have e3 : okQ k = false := by unfold okQ; simp; omega
  have H := Lib.hid (And.intro e1 (And.intro e2 e3))
  clear h e1 e2 e3
  go_enter Tryz.func34, Tryz.ntmps34
  go_wp2_with fail
  go_ret3
  obtain ⟨e1, e2, e3⟩ := H.out
  rw [e1, e2, e3]
  exact ⟨rfl, rfl⟩
theorem engine_any (b : Bool) (e : Nat) (w : World) : Calls Tryz.prog 43 #[.bool b, .int .u8 e] w fun x w' => x = .returned (.bool (if b then decide (1 ≤ e) && decide (e ≤ 3) else decide (e = 0))) ∧ w = w' := by
  cases b with
  | false =>
    have hd : ((e : Int) == 0) = decide (e = 0) := by rw [Bool.eq_iff_iff]; simp
    go_enter Tryz.func43, Tryz.ntmps43
    go_wp2_with fail
    go_ret
    exact ⟨by simp [hd], rfl⟩
  | true =>
    rcases (show e = 0 ∨ (1 ≤ e ∧ e ≤ 3) ∨ 3 < e by omega) with rfl | ⟨h1, h2⟩ | h
    · go_enter Tryz.func43, Tryz.ntmps43
      go_wp2_with fail
      go_ret
      exact ⟨by simp, rfl⟩
    · have a1 : (1 : Int) ≤ e := by omega
      have a2 : (e : Int) ≤ 3 := by omega
      have H := Lib.hid (And.intro h1 h2)
      clear h1 h2
      go_enter Tryz.func43, Tryz.ntmps43
      go_wp2_with fail
      go_ret
      exact ⟨by simp [H.out.1, H.out.2], rfl⟩
    · have a1 : (1 : Int) ≤ e := by omega
      have a2 : ¬ (e : Int) ≤ 3 := by omega
      have H := Lib.hid h
      clear h
      go_enter Tryz.func43, Tryz.ntmps43
      go_wp2_with fail
      go_ret
      exact ⟨by have := H.out; simp; omega, rfl⟩
set_option maxHeartbeats 1000000 in
theorem has_any (l : List UInt8) (hl : l.length ≤ 9223372036854775807) (c : UInt8) (w : World) : Calls Tryz.prog 114 #[.string (str l), .int .u8 (c.toNat : Int)] w fun x w' => x = .returned (.bool (l.contains c)) ∧ w = w' := by
  have hs : (str l).size = l.length := str_size l
  have HS := Lib.hid hs
  have hm : (str l).size ≤ 9223372036854775807 := by rw [hs]; exact hl
  have HAT := Lib.hid (fun (i : Nat) (hi : i < l.length) => show (str l).data[i]? = some l[i] by simp [str])
  clear hs
  go_enter Tryz.func114, Tryz.ntmps114
  go_wp2_with fail
  go_loopw [5] (fun iv wr => ∃ j : Nat, iv = .int .i64 j ∧ j ≤ l.length ∧ w = wr ∧ (l.take j).contains c = false) (fun iv _ => l.length - (RowKit.intOf iv).toNat)
  case atStart => exact ⟨0, rfl, Nat.zero_le _, rfl, by simp⟩
  case round =>
    obtain ⟨j, rfl, hj, rfl, hn⟩ := hrel
    have HN := Lib.hid hn
    clear hn
    by_cases hlt : j < l.length
    · have hj2 : j < (str l).size := by rw [HS.out]; exact hlt
      have hx := HAT.out j hlt
      by_cases hc : l[j] = c
      · have hd : ((l[j].toNat : Int) == (c.toNat : Int)) = true := by rw [hc]; simp
        have HR := Lib.hid (show l.contains c = true by simp only [List.contains_iff_mem]; rw [← hc]; exact List.getElem_mem hlt)
        go_wp2_with fail
        go_ret
        exact ⟨by rw [HR.out]; rfl, rfl⟩
      · have hd : ((l[j].toNat : Int) == (c.toNat : Int)) = false := by
          rw [beq_eq_false_iff_ne]
          intro e
          exact hc (UInt8.toNat_inj.1 (by omega))
        have HR := Lib.hid (show (l.take (j + 1)).contains c = false by
          rw [List.take_add_one, List.getElem?_eq_getElem hlt]
          have h1 := HN.out
          simp only [Option.toList_some, Bool.eq_false_iff, ne_eq, List.contains_iff_mem, List.mem_append, List.mem_singleton, not_or] at h1 ⊢
          exact ⟨h1, fun e => hc e.symm⟩)
        clear hc
        go_wp2_with fail
        exact ⟨⟨j + 1, by simp, by omega, trivial, HR.out⟩, by simp [RowKit.intOf]; omega⟩
    · obtain rfl : j = l.length := by omega
      have HR := Lib.hid (show l.contains c = false by have := HN.out; rwa [List.take_length] at this)
      go_wp2_with fail
      go_ret
      exact ⟨by rw [HR.out]; rfl, rfl⟩
theorem rnumber_any (q : QryD) (v : Value) (hv : v.oneCell' = true) (c : UInt8) (w : World) : Calls Tryz.prog 36 #[.agg (qCells q v).toArray, .int .u8 (c.toNat : Int)] w fun e w' => e = .returned (.int .u64 (numQ q (idxL c))) ∧ Ext w w' := by
  have X := (Upd.refl none' w).alloc (.cells (qCells q v).toArray 27)
  have hb := blk_alloc w (.cells (qCells q v).toArray 27)
  have c2 := cell_of_blk hb 2
  have c3 := cell_of_blk hb 3
  have c4 := cell_of_blk hb 4
  have c5 := cell_of_blk hb 5
  have c6 := cell_of_blk hb 6
  simp only [qCells] at X c2 c3 c4 c5 c6 ⊢
  simp only [List.size_toArray, List.getElem?_toArray, List.getElem?_cons_zero, List.getElem?_cons_succ] at c2 c3 c4 c5 c6
  have HX := Lib.hid X
  have hk : ∀ k : UInt8, ((c.toNat : Int) == (k.toNat : Int)) = decide (c = k) := fun k => by
    rw [Bool.eq_iff_iff]
    simp only [beq_iff_eq, decide_eq_true_eq]
    exact ⟨fun e => UInt8.toNat_inj.1 (by omega), fun e => by rw [e]⟩
  have k83 := hk 83
  have k73 := hk 73
  have k79 := hk 79
  have k66 := hk 66
  simp only [show (83 : UInt8).toNat = 83 from rfl, show (73 : UInt8).toNat = 73 from rfl, show (79 : UInt8).toNat = 79 from rfl, show (66 : UInt8).toNat = 66 from rfl] at k83 k73 k79 k66
  clear X hb hk
  by_cases h1 : c = 83
  · have HR := Lib.hid (show numQ q (idxL c) = q.size by rw [h1]; rfl)
    rw [decide_eq_true h1] at k83
    clear h1 k73 k79 k66
    go_enter Tryz.func36, Tryz.ntmps36
    go_wp2_with fail
    go_ret
    exact ⟨by rw [HR.out]; rfl, HX.out⟩
  rw [decide_eq_false h1] at k83
  by_cases h2 : c = 73
  · have HR := Lib.hid (show numQ q (idxL c) = q.index by rw [h2]; rfl)
    rw [decide_eq_true h2] at k73
    clear h1 h2 k79 k66
    go_enter Tryz.func36, Tryz.ntmps36
    go_wp2_with fail
    go_ret
    exact ⟨by rw [HR.out]; rfl, HX.out⟩
  rw [decide_eq_false h2] at k73
  by_cases h3 : c = 79
  · have HR := Lib.hid (show numQ q (idxL c) = q.old by rw [h3]; rfl)
    rw [decide_eq_true h3] at k79
    clear h1 h2 h3 k66
    go_enter Tryz.func36, Tryz.ntmps36
    go_wp2_with fail
    go_ret
    exact ⟨by rw [HR.out]; rfl, HX.out⟩
  rw [decide_eq_false h3] at k79
  by_cases h4 : c = 66
  · have HR := Lib.hid (show numQ q (idxL c) = q.bgn by rw [h4]; rfl)
    rw [decide_eq_true h4] at k66
    clear h1 h2 h3 h4
    go_enter Tryz.func36, Tryz.ntmps36
    go_wp2_with fail
    go_ret
    exact ⟨by rw [HR.out]; rfl, HX.out⟩
  rw [decide_eq_false h4] at k66
  have HR := Lib.hid (show numQ q (idxL c) = q.fin by unfold idxL; rw [if_neg h1, if_neg h2, if_neg h3, if_neg h4]; rfl)
  clear h1 h2 h3 h4
  go_enter Tryz.func36, Tryz.ntmps36
  go_wp2_with fail
  go_ret
  exact ⟨by rw [HR.out]; rfl, HX.out⟩

def allL : List UInt8 := [83, 73, 79, 66, 69]
theorem let_L (k : Nat) : (letL k).contains 76 = askL k := by
  rcases (show k = 2 ∨ k = 3 ∨ k = 4 ∨ k = 5 ∨ k = 6 ∨ k = 7 ∨ (k ≠ 2 ∧ k ≠ 3 ∧ k ≠ 4 ∧ k ≠ 5 ∧ k ≠ 6 ∧ k ≠ 7) by omega) with rfl | rfl | rfl | rfl | rfl | rfl | h
  iterate 6 rfl
  have e1 : letL k = [] := by unfold letL; split <;> first | omega | rfl
  have e2 : askL k = false := by unfold askL; simp; omega
  rw [e1, e2]; rfl
theorem let_N (k i : Nat) (h : i < 5) : (letL k).contains (allL[i]'(by simpa [allL] using h)) = decide (i ∈ askN k) := by
  rcases (show i = 0 ∨ i = 1 ∨ i = 2 ∨ i = 3 ∨ i = 4 by omega) with rfl | rfl | rfl | rfl | rfl <;>
    (rcases (show k = 2 ∨ k = 3 ∨ k = 4 ∨ k = 5 ∨ k = 6 ∨ k = 7 ∨ (k ≠ 2 ∧ k ≠ 3 ∧ k ≠ 4 ∧ k ≠ 5 ∧ k ≠ 6 ∧ k ≠ 7) by omega) with rfl | rfl | rfl | rfl | rfl | rfl | h
     iterate 6 rfl
     have e1 : letL k = [] := by unfold letL; split <;> first | omega | rfl
     have e2 : askN k = [] := by unfold askN; split <;> first | omega | rfl
     rw [e1, e2]; rfl)
theorem idx_all (i : Nat) (h : i < 5) : idxL (allL[i]'(by simpa [allL] using h)) = i := by
  rcases (show i = 0 ∨ i = 1 ∨ i = 2 ∨ i = 3 ∨ i = 4 by omega) with rfl | rfl | rfl | rfl | rfl <;> rfl
theorem let_len (k : Nat) : (letL k).length ≤ 3 := by unfold letL; split <;> simp
theorem idx_allS (j : Nat) (h : j < 5) (W : World) : (Instr.index 9 (.string ⟨#[83, 73, 79, 66, 69]⟩) (.int .i64 j)).run Tryz.prog W = .ok (.int .u8 ((allL[j]'(by simpa [allL] using h)).toNat : Int)) W := by
  rw [run_idx_str Tryz.underlying9 _ j (by show j < 5; exact h)]
  rcases (show j = 0 ∨ j = 1 ∨ j = 2 ∨ j = 3 ∨ j = 4 by omega) with rfl | rfl | rfl | rfl | rfl <;> rfl
theorem body_rnumber : hasBody Tryz.prog 36 = true := by kernel_rfl
theorem body_has : hasBody Tryz.prog 114 = true := by kernel_rfl

set_option maxRecDepth 8000 in
set_option maxHeartbeats 4000000 in
theorem mayR_any {w : World} (q : QryD) (hq : q.Ok) (ad : Option Addr) (ca : Nat) :
    Calls Tryz.prog 32 #[.agg (qCells q (.slice ad q.leaves.length ca)).toArray] w fun e w' => e = .returned (.bool (mayB q)) ∧ Ext w w' := by
  have hmany := hq.many
  have e0 : mayB q = (okQ q.kind && (goesB q.kind q.engine && ((askL q.kind || q.leaves.length == 0) && (List.range 5).all (mayNum q)))) := rfl
  generalize hn : q.leaves.length = n at *
  have HLN := Lib.hid hn
  clear hn
  have X := (Upd.refl none' w).alloc (.cells (qCells q (.slice ad n ca)).toArray 27)
  have hb := blk_alloc w (.cells (qCells q (.slice ad n ca)).toArray 27)
  have HN := fun c w => rnumber_any q (.slice ad n ca) rfl c w
  have c0 := cell_of_blk hb 0
  have c1 := cell_of_blk hb 1
  have c7 := cell_of_blk hb 7
  have HE0 := Lib.hid e0
  simp only [qCells] at X hb c0 c1 c7 HN ⊢
  simp only [List.size_toArray, List.getElem?_toArray, List.getElem?_cons_zero, List.getElem?_cons_succ] at c0 c1 c7
  have HX := Lib.hid X
  have HB := Lib.hid hb
  have HLL := Lib.hid (let_L q.kind)
  have HG := Lib.hid (show goesB q.kind q.engine = (if askE q.kind then decide (1 ≤ q.engine) && decide (q.engine ≤ 3) else decide (q.engine = 0)) from rfl)
  have HNN := Lib.hid HN
  clear X hb e0 hq HN
  go_enter Tryz.func32, Tryz.ntmps32
  go_wp2_with fail
  refine (fields_any _ _).mono ?_
  rintro e w' ⟨rfl, rfl⟩
  cases hok : okQ q.kind with
  | false =>
    have HR := Lib.hid (show mayB q = false by rw [HE0.out, hok]; rfl)
    go_wp2_with fail
    go_ret
    exact ⟨by rw [HR.out]; rfl, HX.out⟩
  | true =>
    have HOK := Lib.hid hok
    clear hok
    have CE := engine_any (askE q.kind) q.engine
    rw [← HG.out] at CE
    go_wp2_with fail
    refine (CE _).mono ?_
    rintro e w' ⟨rfl, rfl⟩
    cases hg : goesB q.kind q.engine with
    | false =>
      have HR := Lib.hid (show mayB q = false by rw [HE0.out, HOK.out, hg]; rfl)
      clear hg
      go_wp2_with fail
      go_ret
      exact ⟨by rw [HR.out]; rfl, HX.out⟩
    | true =>
      have HGO := Lib.hid hg
      clear hg CE
      have CH := has_any (letL q.kind) (by have := let_len q.kind; omega) 76
      rw [HLL.out] at CH
      have hthree : (¬ (0 : Int) < n ∧ (askL q.kind || n == 0) = true) ∨ ((0 : Int) < n ∧ askL q.kind = true ∧ (askL q.kind || n == 0) = true) ∨ ((0 : Int) < n ∧ askL q.kind = false ∧ (askL q.kind || n == 0) = false) := by
        by_cases h0 : n = 0
        · exact .inl ⟨by omega, by simp [h0]⟩
        · cases ha : askL q.kind with
          | true => exact .inr (.inl ⟨by omega, rfl, rfl⟩)
          | false => exact .inr (.inr ⟨by omega, rfl, by simpa using h0⟩)
      rcases hthree with ⟨d0, dt⟩ | ⟨d0, da, dt⟩ | ⟨d0, da, dt⟩
      case inr.inr =>
        have HR := Lib.hid (show mayB q = false by rw [HE0.out, HOK.out, HGO.out, dt]; rfl)
        rw [da] at CH
        clear dt da
        go_wp2_with fail
        refine (CH _).mono ?_
        rintro e w' ⟨rfl, rfl⟩
        go_wp2_with fail
        go_ret
        exact ⟨by rw [HR.out]; rfl, HX.out⟩
      case inr.inl =>
        rw [da] at CH
        have HT := Lib.hid (show mayB q = (List.range 5).all (mayNum q) by rw [HE0.out, HOK.out, HGO.out, dt]; rfl)
        clear dt da
        go_wp2_with fail
        refine (CH _).mono ?_
        rintro e w' ⟨rfl, rfl⟩
        go_wp2_with fail
        go_loopw [7] (fun iv wr => ∃ j : Nat, iv = .int .i64 j ∧ j ≤ 5 ∧ Ext (w.alloc (.cells (qCells q (.slice ad n ca)).toArray 27)) wr ∧ (List.range j).all (mayNum q) = true) (fun iv _ => 5 - (RowKit.intOf iv).toNat)
        case atStart => exact ⟨0, rfl, Nat.zero_le _, Upd.refl _ _, rfl⟩
        case round =>
          obtain ⟨j, rfl, hj, hu, hall⟩ := hrel
          have HALL := Lib.hid hall
          have HU := Lib.hid hu
          clear hall hu
          by_cases hlt : j < 5
          · have HID := Lib.hid (idx_allS j hlt)
            have hci := idx_all j hlt
            have hcn := let_N q.kind j hlt
            generalize allL[j]'(by simpa [allL] using hlt) = c at *
            have HCH := Lib.hid (has_any (letL q.kind) (by have := let_len q.kind; omega) c)
            rw [hcn] at HCH
            have HCN := Lib.hid (HNN.out c)
            rw [hci] at HCN
            have HNX : mayNum q j = (numQ q j == 0 || decide (j ∈ askN q.kind)) := rfl
            have HN2 := Lib.hid (show (List.range (j + 1)).all (mayNum q) = mayNum q j by rw [List.range_succ, List.all_append, HALL.out]; simp)
            have HLD := Lib.hid (fun (w1 : World) (hX : Ext wr w1) (i : Nat) (u : Value) (hu : (qCells q (.slice ad n ca))[i]? = some u) => show w1.cell? ⟨w.heap.size, 0 + i, none⟩ = some u by
              rw [cell_of_blk (Ext.blk (HU.out.trans hX) HB.out), Nat.zero_add, List.getElem?_toArray]; exact hu)
            clear hci hcn
            cases hz : (numQ q j == 0) with
            | true =>
              have HNE := Lib.hid (show (((numQ q j : Nat) : Int) != 0) = false by simpa using hz)
              have HM := Lib.hid (show mayNum q j = true by rw [HNX, hz]; rfl)
              clear hz HNX
              go_wp2_with fail
              refine region_slots (fun _ => ⟨0, 0, none⟩) [.inl (.agg (qCells q (.slice ad n ca)).toArray), .inl (.string ⟨#[83, 73, 79, 66, 69]⟩), .inl (.int .i64 (j : Int)), .inl (.int .u8 (c.toNat : Int)), .inl (.int .u64 (numQ q j)), .inl (.bool false), .inl (.bool false), .inl undef, .inl undef, .inl undef, .inl undef, .inl undef, .inl undef, .inl (.bool false)] (by kernel_rfl) (by rfl) (by rfl) ?_ ?_
              rotate_left
              · intro v w' X hv
                have h54 := slot_val (hv 13 _ 54 rfl rfl) rfl
                have HU2 := Lib.hid (HU.out.trans X)
                clear X hv
                refine q_norm (by simp only [putAll]; rewrite [h54]; go_simp; all_goals exact rfl) ?_
                clear h54
                go_wp2_with fail
                exact ⟨⟨j + 1, by simp, by omega, HU2.out, by rw [HN2.out]; exact HM.out⟩, by simp [RowKit.intOf]; omega⟩
              refine ⟨ty_loadAgg 27 w.heap.size 0 _ (gd_none rfl) rfl rfl (kn_old 1 rfl rfl) Tryz.underlying27 rfl qry_size HLD.out, ?_⟩
              refine ⟨ty_move (gd_none rfl) rfl rfl (kn_old 6 rfl rfl), ?_⟩
              refine ⟨ty_move (gd_none rfl) rfl rfl (kn_old 7 rfl rfl), ?_⟩
              refine ⟨ty_index _ _ _ (gd_none rfl) rfl rfl (kn_new 1 rfl rfl rfl rfl) (kn_new 2 rfl rfl rfl rfl) HID.out, ?_⟩
              refine ⟨ty_call2 36 _ _ _ _ _ (gd_none rfl) rfl body_rnumber (kn_new 0 rfl rfl rfl rfl) (kn_new 3 rfl rfl rfl rfl) (fun w1 _ => known_call rfl (HCN.out w1)), ?_⟩
              refine ⟨ty_bin _ _ _ (gd_none rfl) rfl rfl (kn_new 4 rfl rfl rfl rfl) kn_const (run_neqInt .u64 _ _ _ HNE.out), ?_⟩
              refine ⟨ty_move (gd_none rfl) rfl rfl (kn_new 5 rfl rfl rfl rfl), ?_⟩
              refine ⟨ty_skip 6 rfl rfl rfl rfl rfl rfl rfl, ?_⟩
              refine ⟨ty_skip 6 rfl rfl rfl rfl rfl rfl rfl, ?_⟩
              refine ⟨ty_skip 6 rfl rfl rfl rfl rfl rfl rfl, ?_⟩
              refine ⟨ty_skip 6 rfl rfl rfl rfl rfl rfl rfl, ?_⟩
              refine ⟨ty_skip 6 rfl rfl rfl rfl rfl rfl rfl, ?_⟩
              refine ⟨ty_skip 6 rfl rfl rfl rfl rfl rfl rfl, ?_⟩
              refine ⟨ty_pickF (gd_none rfl) rfl rfl (kn_new 6 rfl rfl rfl rfl) kn_const, ?_⟩
              exact trivial
            | false =>
              have HNE := Lib.hid (show (((numQ q j : Nat) : Int) != 0) = true by simpa using hz)
              cases hm : decide (j ∈ askN q.kind) with
              | true =>
                have HM := Lib.hid (show mayNum q j = true by rw [HNX, hz, hm]; rfl)
                rw [hm] at HCH
                clear hz hm HNX
                go_wp2_with fail
                refine region_slots (fun _ => ⟨0, 0, none⟩) [.inl (.agg (qCells q (.slice ad n ca)).toArray), .inl (.string ⟨#[83, 73, 79, 66, 69]⟩), .inl (.int .i64 (j : Int)), .inl (.int .u8 (c.toNat : Int)), .inl (.int .u64 (numQ q j)), .inl (.bool true), .inl (.bool true), .inl (.string (str (letL q.kind))), .inl (.string ⟨#[83, 73, 79, 66, 69]⟩), .inl (.int .i64 (j : Int)), .inl (.int .u8 (c.toNat : Int)), .inl (.bool true), .inl (.bool false), .inl (.bool false)] (by kernel_rfl) (by rfl) (by rfl) ?_ ?_
                rotate_left
                · intro v w' X hv
                  have h54 := slot_val (hv 13 _ 54 rfl rfl) rfl
                  have HU2 := Lib.hid (HU.out.trans X)
                  clear X hv
                  refine q_norm (by simp only [putAll]; rewrite [h54]; go_simp; all_goals exact rfl) ?_
                  clear h54
                  go_wp2_with fail
                  exact ⟨⟨j + 1, by simp, by omega, HU2.out, by rw [HN2.out]; exact HM.out⟩, by simp [RowKit.intOf]; omega⟩
                refine ⟨ty_loadAgg 27 w.heap.size 0 _ (gd_none rfl) rfl rfl (kn_old 1 rfl rfl) Tryz.underlying27 rfl qry_size HLD.out, ?_⟩
                refine ⟨ty_move (gd_none rfl) rfl rfl (kn_old 6 rfl rfl), ?_⟩
                refine ⟨ty_move (gd_none rfl) rfl rfl (kn_old 7 rfl rfl), ?_⟩
                refine ⟨ty_index _ _ _ (gd_none rfl) rfl rfl (kn_new 1 rfl rfl rfl rfl) (kn_new 2 rfl rfl rfl rfl) HID.out, ?_⟩
                refine ⟨ty_call2 36 _ _ _ _ _ (gd_none rfl) rfl body_rnumber (kn_new 0 rfl rfl rfl rfl) (kn_new 3 rfl rfl rfl rfl) (fun w1 _ => known_call rfl (HCN.out w1)), ?_⟩
                refine ⟨ty_bin _ _ _ (gd_none rfl) rfl rfl (kn_new 4 rfl rfl rfl rfl) kn_const (run_neqInt .u64 _ _ _ HNE.out), ?_⟩
                refine ⟨ty_move (gd_none rfl) rfl rfl (kn_new 5 rfl rfl rfl rfl), ?_⟩
                refine ⟨ty_move (gd_some 6 rfl rfl rfl rfl rfl) rfl rfl (kn_old 3 rfl rfl), ?_⟩
                refine ⟨ty_move (gd_some 6 rfl rfl rfl rfl rfl) rfl rfl (kn_old 6 rfl rfl), ?_⟩
                refine ⟨ty_move (gd_some 6 rfl rfl rfl rfl rfl) rfl rfl (kn_old 7 rfl rfl), ?_⟩
                refine ⟨ty_index _ _ _ (gd_some 6 rfl rfl rfl rfl rfl) rfl rfl (kn_new 8 rfl rfl rfl rfl) (kn_new 9 rfl rfl rfl rfl) HID.out, ?_⟩
                refine ⟨ty_call2 114 _ _ _ _ _ (gd_some 6 rfl rfl rfl rfl rfl) rfl body_has (kn_new 7 rfl rfl rfl rfl) (kn_new 10 rfl rfl rfl rfl) (fun w1 _ => known_call0 rfl (HCH.out w1)), ?_⟩
                refine ⟨ty_not true (gd_some 6 rfl rfl rfl rfl rfl) rfl rfl (kn_new 11 rfl rfl rfl rfl), ?_⟩
                refine ⟨ty_pickT (gd_none rfl) rfl rfl (kn_new 6 rfl rfl rfl rfl) (kn_new 12 rfl rfl rfl rfl), ?_⟩
                exact trivial
              | false =>
                have HM := Lib.hid (show mayNum q j = false by rw [HNX, hz, hm]; rfl)
                rw [hm] at HCH
                clear hz hm HNX
                go_wp2_with fail
                refine region_slots (fun _ => ⟨0, 0, none⟩) [.inl (.agg (qCells q (.slice ad n ca)).toArray), .inl (.string ⟨#[83, 73, 79, 66, 69]⟩), .inl (.int .i64 (j : Int)), .inl (.int .u8 (c.toNat : Int)), .inl (.int .u64 (numQ q j)), .inl (.bool true), .inl (.bool true), .inl (.string (str (letL q.kind))), .inl (.string ⟨#[83, 73, 79, 66, 69]⟩), .inl (.int .i64 (j : Int)), .inl (.int .u8 (c.toNat : Int)), .inl (.bool false), .inl (.bool true), .inl (.bool true)] (by kernel_rfl) (by rfl) (by rfl) ?_ ?_
                rotate_left
                · intro v w' X hv
                  have h54 := slot_val (hv 13 _ 54 rfl rfl) rfl
                  have HU2 := Lib.hid (HU.out.trans X)
                  clear X hv
                  refine q_norm (by simp only [putAll]; rewrite [h54]; go_simp; all_goals exact rfl) ?_
                  clear h54
                  have HR := Lib.hid (show mayB q = false by rw [HT.out, Bool.eq_false_iff]; intro hh; have := List.all_eq_true.1 hh j (List.mem_range.2 hlt); rw [HM.out] at this; cases this)
                  go_wp2_with fail
                  go_ret
                  exact ⟨by rw [HR.out]; rfl, HX.out.trans HU2.out⟩
                refine ⟨ty_loadAgg 27 w.heap.size 0 _ (gd_none rfl) rfl rfl (kn_old 1 rfl rfl) Tryz.underlying27 rfl qry_size HLD.out, ?_⟩
                refine ⟨ty_move (gd_none rfl) rfl rfl (kn_old 6 rfl rfl), ?_⟩
                refine ⟨ty_move (gd_none rfl) rfl rfl (kn_old 7 rfl rfl), ?_⟩
                refine ⟨ty_index _ _ _ (gd_none rfl) rfl rfl (kn_new 1 rfl rfl rfl rfl) (kn_new 2 rfl rfl rfl rfl) HID.out, ?_⟩
                refine ⟨ty_call2 36 _ _ _ _ _ (gd_none rfl) rfl body_rnumber (kn_new 0 rfl rfl rfl rfl) (kn_new 3 rfl rfl rfl rfl) (fun w1 _ => known_call rfl (HCN.out w1)), ?_⟩
                refine ⟨ty_bin _ _ _ (gd_none rfl) rfl rfl (kn_new 4 rfl rfl rfl rfl) kn_const (run_neqInt .u64 _ _ _ HNE.out), ?_⟩
                refine ⟨ty_move (gd_none rfl) rfl rfl (kn_new 5 rfl rfl rfl rfl), ?_⟩
                refine ⟨ty_move (gd_some 6 rfl rfl rfl rfl rfl) rfl rfl (kn_old 3 rfl rfl), ?_⟩
                refine ⟨ty_move (gd_some 6 rfl rfl rfl rfl rfl) rfl rfl (kn_old 6 rfl rfl), ?_⟩
                refine ⟨ty_move (gd_some 6 rfl rfl rfl rfl rfl) rfl rfl (kn_old 7 rfl rfl), ?_⟩
                refine ⟨ty_index _ _ _ (gd_some 6 rfl rfl rfl rfl rfl) rfl rfl (kn_new 8 rfl rfl rfl rfl) (kn_new 9 rfl rfl rfl rfl) HID.out, ?_⟩
                refine ⟨ty_call2 114 _ _ _ _ _ (gd_some 6 rfl rfl rfl rfl rfl) rfl body_has (kn_new 7 rfl rfl rfl rfl) (kn_new 10 rfl rfl rfl rfl) (fun w1 _ => known_call0 rfl (HCH.out w1)), ?_⟩
                refine ⟨ty_not false (gd_some 6 rfl rfl rfl rfl rfl) rfl rfl (kn_new 11 rfl rfl rfl rfl), ?_⟩
                refine ⟨ty_pickT (gd_none rfl) rfl rfl (kn_new 6 rfl rfl rfl rfl) (kn_new 12 rfl rfl rfl rfl), ?_⟩
                exact trivial
          · obtain rfl : j = 5 := by omega
            have HR := Lib.hid (show mayB q = true by rw [HT.out]; exact HALL.out)
            go_wp2_with fail
            go_ret
            exact ⟨by rw [HR.out]; rfl, HX.out.trans HU.out⟩
      case inl =>
        have HT := Lib.hid (show mayB q = (List.range 5).all (mayNum q) by rw [HE0.out, HOK.out, HGO.out, dt]; rfl)
        clear dt
        go_wp2_with fail
        go_loopw [7] (fun iv wr => ∃ j : Nat, iv = .int .i64 j ∧ j ≤ 5 ∧ Ext (w.alloc (.cells (qCells q (.slice ad n ca)).toArray 27)) wr ∧ (List.range j).all (mayNum q) = true) (fun iv _ => 5 - (RowKit.intOf iv).toNat)
        case atStart => exact ⟨0, rfl, Nat.zero_le _, Upd.refl _ _, rfl⟩
        case round =>
          obtain ⟨j, rfl, hj, hu, hall⟩ := hrel
          have HALL := Lib.hid hall
          have HU := Lib.hid hu
          clear hall hu
          by_cases hlt : j < 5
          · have HID := Lib.hid (idx_allS j hlt)
            have hci := idx_all j hlt
            have hcn := let_N q.kind j hlt
            generalize allL[j]'(by simpa [allL] using hlt) = c at *
            have HCH := Lib.hid (has_any (letL q.kind) (by have := let_len q.kind; omega) c)
            rw [hcn] at HCH
            have HCN := Lib.hid (HNN.out c)
            rw [hci] at HCN
            have HNX : mayNum q j = (numQ q j == 0 || decide (j ∈ askN q.kind)) := rfl
            have HN2 := Lib.hid (show (List.range (j + 1)).all (mayNum q) = mayNum q j by rw [List.range_succ, List.all_append, HALL.out]; simp)
            have HLD := Lib.hid (fun (w1 : World) (hX : Ext wr w1) (i : Nat) (u : Value) (hu : (qCells q (.slice ad n ca))[i]? = some u) => show w1.cell? ⟨w.heap.size, 0 + i, none⟩ = some u by
              rw [cell_of_blk (Ext.blk (HU.out.trans hX) HB.out), Nat.zero_add, List.getElem?_toArray]; exact hu)
            clear hci hcn
            cases hz : (numQ q j == 0) with
            | true =>
              have HNE := Lib.hid (show (((numQ q j : Nat) : Int) != 0) = false by simpa using hz)
              have HM := Lib.hid (show mayNum q j = true by rw [HNX, hz]; rfl)
              clear hz HNX
              go_wp2_with fail
              refine region_slots (fun _ => ⟨0, 0, none⟩) [.inl (.agg (qCells q (.slice ad n ca)).toArray), .inl (.string ⟨#[83, 73, 79, 66, 69]⟩), .inl (.int .i64 (j : Int)), .inl (.int .u8 (c.toNat : Int)), .inl (.int .u64 (numQ q j)), .inl (.bool false), .inl (.bool false), .inl undef, .inl undef, .inl undef, .inl undef, .inl undef, .inl undef, .inl (.bool false)] (by kernel_rfl) (by rfl) (by rfl) ?_ ?_
              rotate_left
              · intro v w' X hv
                have h54 := slot_val (hv 13 _ 54 rfl rfl) rfl
                have HU2 := Lib.hid (HU.out.trans X)
                clear X hv
                refine q_norm (by simp only [putAll]; rewrite [h54]; go_simp; all_goals exact rfl) ?_
                clear h54
                go_wp2_with fail
                exact ⟨⟨j + 1, by simp, by omega, HU2.out, by rw [HN2.out]; exact HM.out⟩, by simp [RowKit.intOf]; omega⟩
              refine ⟨ty_loadAgg 27 w.heap.size 0 _ (gd_none rfl) rfl rfl (kn_old 1 rfl rfl) Tryz.underlying27 rfl qry_size HLD.out, ?_⟩
              refine ⟨ty_move (gd_none rfl) rfl rfl (kn_old 6 rfl rfl), ?_⟩
              refine ⟨ty_move (gd_none rfl) rfl rfl (kn_old 7 rfl rfl), ?_⟩
              refine ⟨ty_index _ _ _ (gd_none rfl) rfl rfl (kn_new 1 rfl rfl rfl rfl) (kn_new 2 rfl rfl rfl rfl) HID.out, ?_⟩
              refine ⟨ty_call2 36 _ _ _ _ _ (gd_none rfl) rfl body_rnumber (kn_new 0 rfl rfl rfl rfl) (kn_new 3 rfl rfl rfl rfl) (fun w1 _ => known_call rfl (HCN.out w1)), ?_⟩
              refine ⟨ty_bin _ _ _ (gd_none rfl) rfl rfl (kn_new 4 rfl rfl rfl rfl) kn_const (run_neqInt .u64 _ _ _ HNE.out), ?_⟩
              refine ⟨ty_move (gd_none rfl) rfl rfl (kn_new 5 rfl rfl rfl rfl), ?_⟩
              refine ⟨ty_skip 6 rfl rfl rfl rfl rfl rfl rfl, ?_⟩
              refine ⟨ty_skip 6 rfl rfl rfl rfl rfl rfl rfl, ?_⟩
              refine ⟨ty_skip 6 rfl rfl rfl rfl rfl rfl rfl, ?_⟩
              refine ⟨ty_skip 6 rfl rfl rfl rfl rfl rfl rfl, ?_⟩
              refine ⟨ty_skip 6 rfl rfl rfl rfl rfl rfl rfl, ?_⟩
              refine ⟨ty_skip 6 rfl rfl rfl rfl rfl rfl rfl, ?_⟩
              refine ⟨ty_pickF (gd_none rfl) rfl rfl (kn_new 6 rfl rfl rfl rfl) kn_const, ?_⟩
              exact trivial
            | false =>
              have HNE := Lib.hid (show (((numQ q j : Nat) : Int) != 0) = true by simpa using hz)
              cases hm : decide (j ∈ askN q.kind) with
              | true =>
                have HM := Lib.hid (show mayNum q j = true by rw [HNX, hz, hm]; rfl)
                rw [hm] at HCH
                clear hz hm HNX
                go_wp2_with fail
                refine region_slots (fun _ => ⟨0, 0, none⟩) [.inl (.agg (qCells q (.slice ad n ca)).toArray), .inl (.string ⟨#[83, 73, 79, 66, 69]⟩), .inl (.int .i64 (j : Int)), .inl (.int .u8 (c.toNat : Int)), .inl (.int .u64 (numQ q j)), .inl (.bool true), .inl (.bool true), .inl (.string (str (letL q.kind))), .inl (.string ⟨#[83, 73, 79, 66, 69]⟩), .inl (.int .i64 (j : Int)), .inl (.int .u8 (c.toNat : Int)), .inl (.bool true), .inl (.bool false), .inl (.bool false)] (by kernel_rfl) (by rfl) (by rfl) ?_ ?_
                rotate_left
                · intro v w' X hv
                  have h54 := slot_val (hv 13 _ 54 rfl rfl) rfl
                  have HU2 := Lib.hid (HU.out.trans X)
                  clear X hv
                  refine q_norm (by simp only [putAll]; rewrite [h54]; go_simp; all_goals exact rfl) ?_
                  clear h54
                  go_wp2_with fail
                  exact ⟨⟨j + 1, by simp, by omega, HU2.out, by rw [HN2.out]; exact HM.out⟩, by simp [RowKit.intOf]; omega⟩
                refine ⟨ty_loadAgg 27 w.heap.size 0 _ (gd_none rfl) rfl rfl (kn_old 1 rfl rfl) Tryz.underlying27 rfl qry_size HLD.out, ?_⟩
                refine ⟨ty_move (gd_none rfl) rfl rfl (kn_old 6 rfl rfl), ?_⟩
                refine ⟨ty_move (gd_none rfl) rfl rfl (kn_old 7 rfl rfl), ?_⟩
                refine ⟨ty_index _ _ _ (gd_none rfl) rfl rfl (kn_new 1 rfl rfl rfl rfl) (kn_new 2 rfl rfl rfl rfl) HID.out, ?_⟩
                refine ⟨ty_call2 36 _ _ _ _ _ (gd_none rfl) rfl body_rnumber (kn_new 0 rfl rfl rfl rfl) (kn_new 3 rfl rfl rfl rfl) (fun w1 _ => known_call rfl (HCN.out w1)), ?_⟩
                refine ⟨ty_bin _ _ _ (gd_none rfl) rfl rfl (kn_new 4 rfl rfl rfl rfl) kn_const (run_neqInt .u64 _ _ _ HNE.out), ?_⟩
                refine ⟨ty_move (gd_none rfl) rfl rfl (kn_new 5 rfl rfl rfl rfl), ?_⟩
                refine ⟨ty_move (gd_some 6 rfl rfl rfl rfl rfl) rfl rfl (kn_old 3 rfl rfl), ?_⟩
                refine ⟨ty_move (gd_some 6 rfl rfl rfl rfl rfl) rfl rfl (kn_old 6 rfl rfl), ?_⟩
                refine ⟨ty_move (gd_some 6 rfl rfl rfl rfl rfl) rfl rfl (kn_old 7 rfl rfl), ?_⟩
                refine ⟨ty_index _ _ _ (gd_some 6 rfl rfl rfl rfl rfl) rfl rfl (kn_new 8 rfl rfl rfl rfl) (kn_new 9 rfl rfl rfl rfl) HID.out, ?_⟩
                refine ⟨ty_call2 114 _ _ _ _ _ (gd_some 6 rfl rfl rfl rfl rfl) rfl body_has (kn_new 7 rfl rfl rfl rfl) (kn_new 10 rfl rfl rfl rfl) (fun w1 _ => known_call0 rfl (HCH.out w1)), ?_⟩
                refine ⟨ty_not true (gd_some 6 rfl rfl rfl rfl rfl) rfl rfl (kn_new 11 rfl rfl rfl rfl), ?_⟩
                refine ⟨ty_pickT (gd_none rfl) rfl rfl (kn_new 6 rfl rfl rfl rfl) (kn_new 12 rfl rfl rfl rfl), ?_⟩
                exact trivial
              | false =>
                have HM := Lib.hid (show mayNum q j = false by rw [HNX, hz, hm]; rfl)
                rw [hm] at HCH
                clear hz hm HNX
                go_wp2_with fail
                refine region_slots (fun _ => ⟨0, 0, none⟩) [.inl (.agg (qCells q (.slice ad n ca)).toArray), .inl (.string ⟨#[83, 73, 79, 66, 69]⟩), .inl (.int .i64 (j : Int)), .inl (.int .u8 (c.toNat : Int)), .inl (.int .u64 (numQ q j)), .inl (.bool true), .inl (.bool true), .inl (.string (str (letL q.kind))), .inl (.string ⟨#[83, 73, 79, 66, 69]⟩), .inl (.int .i64 (j : Int)), .inl (.int .u8 (c.toNat : Int)), .inl (.bool false), .inl (.bool true), .inl (.bool true)] (by kernel_rfl) (by rfl) (by rfl) ?_ ?_
                rotate_left
                · intro v w' X hv
                  have h54 := slot_val (hv 13 _ 54 rfl rfl) rfl
                  have HU2 := Lib.hid (HU.out.trans X)
                  clear X hv
                  refine q_norm (by simp only [putAll]; rewrite [h54]; go_simp; all_goals exact rfl) ?_
                  clear h54
                  have HR := Lib.hid (show mayB q = false by rw [HT.out, Bool.eq_false_iff]; intro hh; have := List.all_eq_true.1 hh j (List.mem_range.2 hlt); rw [HM.out] at this; cases this)
                  go_wp2_with fail
                  go_ret
                  exact ⟨by rw [HR.out]; rfl, HX.out.trans HU2.out⟩
                refine ⟨ty_loadAgg 27 w.heap.size 0 _ (gd_none rfl) rfl rfl (kn_old 1 rfl rfl) Tryz.underlying27 rfl qry_size HLD.out, ?_⟩
                refine ⟨ty_move (gd_none rfl) rfl rfl (kn_old 6 rfl rfl), ?_⟩
                refine ⟨ty_move (gd_none rfl) rfl rfl (kn_old 7 rfl rfl), ?_⟩
                refine ⟨ty_index _ _ _ (gd_none rfl) rfl rfl (kn_new 1 rfl rfl rfl rfl) (kn_new 2 rfl rfl rfl rfl) HID.out, ?_⟩
                refine ⟨ty_call2 36 _ _ _ _ _ (gd_none rfl) rfl body_rnumber (kn_new 0 rfl rfl rfl rfl) (kn_new 3 rfl rfl rfl rfl) (fun w1 _ => known_call rfl (HCN.out w1)), ?_⟩
                refine ⟨ty_bin _ _ _ (gd_none rfl) rfl rfl (kn_new 4 rfl rfl rfl rfl) kn_const (run_neqInt .u64 _ _ _ HNE.out), ?_⟩
                refine ⟨ty_move (gd_none rfl) rfl rfl (kn_new 5 rfl rfl rfl rfl), ?_⟩
                refine ⟨ty_move (gd_some 6 rfl rfl rfl rfl rfl) rfl rfl (kn_old 3 rfl rfl), ?_⟩
                refine ⟨ty_move (gd_some 6 rfl rfl rfl rfl rfl) rfl rfl (kn_old 6 rfl rfl), ?_⟩
                refine ⟨ty_move (gd_some 6 rfl rfl rfl rfl rfl) rfl rfl (kn_old 7 rfl rfl), ?_⟩
                refine ⟨ty_index _ _ _ (gd_some 6 rfl rfl rfl rfl rfl) rfl rfl (kn_new 8 rfl rfl rfl rfl) (kn_new 9 rfl rfl rfl rfl) HID.out, ?_⟩
                refine ⟨ty_call2 114 _ _ _ _ _ (gd_some 6 rfl rfl rfl rfl rfl) rfl body_has (kn_new 7 rfl rfl rfl rfl) (kn_new 10 rfl rfl rfl rfl) (fun w1 _ => known_call0 rfl (HCH.out w1)), ?_⟩
                refine ⟨ty_not false (gd_some 6 rfl rfl rfl rfl rfl) rfl rfl (kn_new 11 rfl rfl rfl rfl), ?_⟩
                refine ⟨ty_pickT (gd_none rfl) rfl rfl (kn_new 6 rfl rfl rfl rfl) (kn_new 12 rfl rfl rfl rfl), ?_⟩
                exact trivial
          · obtain rfl : j = 5 := by omega
            have HR := Lib.hid (show mayB q = true by rw [HT.out]; exact HALL.out)
            go_wp2_with fail
            go_ret
            exact ⟨by rw [HR.out]; rfl, HX.out.trans HU.out⟩

/-- What a letter writes. -/
def letB (q : QryD) (c : UInt8) : List UInt8 := if c = 76 then varB q.leaves.length ++ textsB q.leaves else varB (numQ q (idxL c))
def preE (q : QryD) (i : Nat) : List UInt8 := headB q ++ ((letL q.kind).take i).flatMap (letB q)
theorem preE_zero (q : QryD) : preE q 0 = headB q := by simp [preE]
theorem preE_succ (q : QryD) (i : Nat) (c : UInt8) (h : (letL q.kind)[i]? = some c) : preE q (i + 1) = preE q i ++ letB q c := by
  unfold preE
  rw [List.take_add_one, h, Option.toList_some, List.flatMap_append, List.append_assoc]
  simp
theorem preE_all (q : QryD) : preE q (letL q.kind).length = q.body := by
  obtain ⟨k, en, a, b, c, d, e, l⟩ := q
  unfold preE QryD.body
  rw [List.take_length]
  rcases (show k = 2 ∨ k = 3 ∨ k = 4 ∨ k = 5 ∨ k = 6 ∨ k = 7 ∨ (k ≠ 2 ∧ k ≠ 3 ∧ k ≠ 4 ∧ k ≠ 5 ∧ k ≠ 6 ∧ k ≠ 7) by omega) with rfl | rfl | rfl | rfl | rfl | rfl | h
  iterate 6 simp [letL, letB, idxL, numsB, askN, askL]
  have e1 : letL k = [] := by unfold letL; split <;> first | omega | rfl
  have e2 : askN k = [] := by unfold askN; split <;> first | omega | rfl
  have e3 : askL k = false := by unfold askL; simp; omega
  simp [e1, e2, e3, numsB]
theorem letB_len (q : QryD) (c : UInt8) (h : c ≠ 76) : (letB q c).length ≤ 10 := by
  unfold letB; rw [if_neg h]; exact varB_len _
theorem preE_le (q : QryD) (i : Nat) : (preE q i).length ≤ q.body.length := by
  rw [← preE_all]
  unfold preE
  have : ∀ (l : List UInt8) (i : Nat), ((l.take i).flatMap (letB q)).length ≤ (l.flatMap (letB q)).length := by
    intro l
    induction l with
    | nil => intro i; simp
    | cons a t ih => intro i; cases i with
      | zero => simp
      | succ i => have := ih i; simp only [List.take_succ_cons, List.flatMap_cons, List.length_append]; omega
  have h := this (letL q.kind) i
  rw [List.take_length]
  simp only [List.length_append]; omega
/-- The document's limits. -/
def limE (q : QryD) : Prop := 4096 < q.leaves.length ∨ (∃ s ∈ q.leaves, 65536 < s.size) ∨ 1048576 < q.body.length
theorem ref_lim (q : QryD) (hm : mayB q = true) (h : limE q) : qryB q = [] ∧ qryE q = some (4, none) := by
  have hn : ¬ mayB q = false := by rw [hm]; simp
  by_cases hb : bigQ q.leaves
  · exact ⟨by unfold qryB; rw [if_neg hn, if_pos hb], by unfold qryE; rw [if_neg hn, if_pos hb]⟩
  · have hl : 1048576 < q.body.length := by
      rcases h with h | h | h
      · exact absurd (.inl h) hb
      · exact absurd (.inr (.inl h)) hb
      · exact h
    exact ⟨by unfold qryB wholeB; rw [if_neg hn, if_neg hb, if_pos hl], by unfold qryE wholeE; rw [if_neg hn, if_neg hb, if_pos hl]⟩
theorem textsB_ge (l : List ByteArray) : sizes l ≤ (textsB l).length := by
  unfold textsB sizes
  induction l with
  | nil => simp
  | cons a t ih =>
    have h2 : a.data.toList.length = a.size := by rw [Array.length_toList]; rfl
    simp only [List.flatMap_cons, List.length_append, List.map_cons, List.sum_cons]; omega
theorem may_leaves (q : QryD) (hm : mayB q = true) : askL q.kind = true ∨ q.leaves = [] := by
  unfold mayB at hm
  simp only [Bool.and_eq_true, Bool.or_eq_true, beq_iff_eq, List.length_eq_zero_iff] at hm
  exact hm.2.2.1
theorem ref_ok (q : QryD) (hm : mayB q = true) (h : ¬ limE q) : qryB q = q.body ∧ qryE q = none := by
  have hn : ¬ mayB q = false := by rw [hm]; simp
  have hl : ¬ 1048576 < q.body.length := fun e => h (.inr (.inr e))
  have hb : ¬ bigQ q.leaves := by
    rintro (e | e | e)
    · exact h (.inl e)
    · exact h (.inr (.inl e))
    · rcases may_leaves q hm with ha | ha
      · have := textsB_ge q.leaves
        refine hl ?_
        unfold QryD.body
        rw [if_pos ha]
        simp only [List.length_append]; omega
      · rw [ha] at e; simp [sizes] at e
  exact ⟨by unfold qryB wholeB; rw [if_neg hn, if_neg hb, if_neg hl], by unfold qryE wholeE; rw [if_neg hn, if_neg hb, if_neg hl]⟩
theorem same_qry (q : QryD) : sameB (qryE q) (efC (qryE q)) (efA (qryE q)) = true := by
  by_cases hm : mayB q = true
  · by_cases hl : limE q
    · rw [(ref_lim q hm hl).2]; rfl
    · rw [(ref_ok q hm hl).2]; rfl
  · have hm : mayB q = false := by simpa using hm
    have : qryE q = some (2, none) := by unfold qryE; rw [if_pos hm]
    rw [this]; rfl

theorem resRE (tmps : Array Value) (w : World) (g : Nat) (cs : Array Value) (v : Value) (hv : tmps.getD 2 undef = v) (hp : tmps.getD 3 undef = .pointer (some ⟨g, 0, none⟩)) (hg : w.heap[g]? = some (.cells cs 36 (0, 0))) (hs : cs.size = 2) :
    (results Tryz.f10 tmps).run Tryz.prog w = .ok (.tuple #[v, .agg cs]) w := by
  subst hv
  have hp' : tmps[3]?.getD undef = .pointer (some ⟨g, 0, none⟩) := by simpa using hp
  have hr : Tryz.f10.results = #[.tmp 2, .cell 3 36] := rfl
  simp [results, hr, hp', asAddr, run_loadVar_row w g 36 36 cs (0, 0) _ hg Tryz.underlying36 rfl (by rw [hs]; exact fault_size2)]
/-- A row of two. -/
theorem wpList_buildTwo {P : Program} {w : World} {ops : Array Oper} {rest : List Oper} {o : Oper} {a : Act} {Q : Exit → Act → World → Prop} (hg : o.guard = none) (t e : TypeId) (y1 y2 : Operand) (ho : o.op = .buildSlice t 2 #[(0, y1), (1, y2)])
    (v1 v2 : Value) (hy1 : a.eval y1 = v1) (hy2 : a.eval y2 = v2) (hu : P.underlying t = some (.slice e)) (ie : TypeInfo) (z : Value) (hie : P.info? e = some ie) (hz : ie.zero = some z) (hs : ie.size = 1) (hzc : z.cells = #[z]) (hv1 : v1.cells = #[v1]) (hv2 : v2.cells = #[v2])
    (h : wpList P ops Q rest (a.put o.dst (.slice (some ⟨w.heap.size, 0, none⟩) 2 2)) (w.alloc (.cells #[v1, v2] e))) : wpList P ops Q (o :: rest) a w := by
  refine wpList_buildSlice hg t e 2 _ ho #[v1, v2] ie z hu hie hz (by rw [hs]; omega) (by rw [hs]; omega) ?_ h
  simp only [List.map_toArray, List.map_cons, List.map_nil, hy1, hy2]
  simp [Instr.fill, hs, hv1, hv2, hzc, Array.range, Array.setIfInBounds]
  refine Array.ext (by simp [hs]) (fun k h1 h2 => ?_)
  have hk : k < 2 := by simpa using h2
  rcases (show k = 0 ∨ k = 1 by omega) with rfl | rfl <;> simp [Array.getElem_set]
theorem own_fresh2 {w : World} {B : Nat} (hB : B ≤ w.heap.size) (x y : Value) : (w.alloc (.cells #[x, y] 5)).ownsRow B 5 1 (.slice (some ⟨w.heap.size, 0, none⟩) 2 2) 2 [x, y] :=
  ⟨rfl, .inr ⟨w.heap.size, 2, #[x, y], rfl, hB, blk_alloc _ _, Nat.le_refl _, by decide, rfl, rfl⟩⟩
theorem own_appB {w : World} {B : Nat} {v : Value} {bs l : List UInt8} (h : w.ownsRow B 5 1 v (bs.length + (str l).size) (bs.map u8v ++ strCells (str l))) : w.ownsRow B 5 1 v (bs ++ l).length ((bs ++ l).map u8v) := by
  rw [str_size, strCells_str] at h
  rw [List.length_append, List.map_append]
  exact h
theorem head_cells (q : QryD) (hq : q.Ok) : (headB q).map u8v = [.int .u8 q.kind, .int .u8 q.engine] ∧ (headB q).length = 2 := by
  have h1 : u8v q.kind.toUInt8 = .int .u8 (q.kind : Int) := by unfold u8v; rw [toU8 _ hq.kind]
  have h2 : u8v q.engine.toUInt8 = .int .u8 (q.engine : Int) := by unfold u8v; rw [toU8 _ hq.engine]
  unfold headB
  rw [fixB1 _ hq.kind, fixB1 _ hq.engine]
  exact ⟨by simp only [List.singleton_append, List.map_cons, List.map_nil, h1, h2], rfl⟩
theorem textsB_take_le (l : List ByteArray) (k : Nat) : (textsB (l.take k)).length ≤ (textsB l).length := by
  have : textsB l = textsB (l.take k) ++ textsB (l.drop k) := by unfold textsB; rw [← List.flatMap_append, List.take_append_drop]
  rw [this, List.length_append]; omega
theorem let_get (k i : Nat) (c : UInt8) (h : (letL k)[i]? = some c) : (c = 76 → askL k = true) := by
  intro e
  rw [← let_L]
  simp only [List.contains_iff_mem]
  rw [← e]; exact List.mem_of_getElem? h
theorem idx_strL (l : List UInt8) (i : Nat) (c : UInt8) (h : l[i]? = some c) (W : World) : (Instr.index 9 (.string (str l)) (.int .i64 i)).run Tryz.prog W = .ok (.int .u8 (c.toNat : Int)) W := by
  have hl : i < l.length := (List.getElem?_eq_some_iff.1 h).1
  have hi : i < (str l).size := by rw [str_size]; exact hl
  rw [run_idx_str Tryz.underlying9 _ i hi]
  have : (str l)[i]'hi = c := by
    have h2 : l[i] = c := (List.getElem?_eq_some_iff.1 h).2
    show (str l).data[i]'_ = c
    simpa [str] using h2
  rw [this]
theorem not76 (c : UInt8) : ((c.toNat : Int) != 76) = decide (c ≠ 76) := by
  rw [Bool.eq_iff_iff]
  simp only [bne_iff_ne, ne_eq, decide_eq_true_eq]
  exact not_congr ⟨fun e => UInt8.toNat_inj.1 (by have : c.toNat = 76 := by omega
                                                  rw [this]; rfl), fun e => by rw [e]; rfl⟩

set_option maxRecDepth 8000 in
set_option maxHeartbeats 8000000 in
theorem refE_may {w : World} (q : QryD) (hq : q.Ok) (ad : Option Addr) (ca : Nat) (hx : TextsAt w ad q.leaves) (rb : List UInt8) (re : EV) (hm : mayB q = true)
    (hlim : Hid (limE q → rb = [] ∧ re = some (4, none))) (hok : Hid (¬ limE q → rb = q.body ∧ re = none)) :
    Calls Tryz.prog 10 #[.agg (qCells q (.slice ad q.leaves.length ca)).toArray] w (RefPost w rb re) := by
  have CM := fun w1 => mayR_any (w := w1) q hq ad ca
  rw [hm] at CM
  have HLV := Lib.hid (may_leaves q hm)
  obtain ⟨i0, hi, hz0, hz1, hz2⟩ := info_parts info_u8
  have X := ((Upd.refl none' w).alloc (.cells (qCells q (.slice ad q.leaves.length ca)).toArray 27)).alloc (.cells #[.int .i64 0, .int .i64 0] 36)
  have hb := blk_alloc_lt (blk_alloc w (.cells (qCells q (.slice ad q.leaves.length ca)).toArray 27)) (.cells #[.int .i64 0, .int .i64 0] 36)
  have hz := blk_alloc (w.alloc (.cells (qCells q (.slice ad q.leaves.length ca)).toArray 27)) (.cells #[.int .i64 0, .int .i64 0] 36)
  rw [World.size_alloc] at hz
  have CP : ∀ w1 : World, Calls Tryz.prog 33 #[.int .i64 4] w1 fun e w' => e = .returned (.agg #[.int .i64 4, .int .i64 (-1)]) ∧ Ext w1 w' := fun w1 => by
    have h := plain_any 4 w1
    rw [if_neg (by decide)] at h
    exact h
  have hxs := hx.later X
  have hmany := hq.many
  have HHC := Lib.hid (head_cells q hq)
  have HLB := Lib.hid (fun (i : Nat) (c : UInt8) (h : (letL q.kind)[i]? = some c) => preE_succ q i c h)
  have HNQ := Lib.hid (fun (i : Nat) => num_lt q hq i)
  have HSM := Lib.hid (let_len q.kind)
  generalize hn : q.leaves.length = n at *
  have HN := Lib.hid hn
  have HRN := fun c w => rnumber_any q (.slice ad n ca) rfl c w
  have hld : ∀ (i : Nat) (u : Value), (qCells q (.slice ad n ca))[i]? = some u → World.cell? ((w.alloc (.cells (qCells q (.slice ad n ca)).toArray 27)).alloc (.cells #[.int .i64 0, .int .i64 0] 36)) ⟨w.heap.size, 0 + i, none⟩ = some u := fun i u hu => by
    rw [cell_of_blk hb, Nat.zero_add, List.getElem?_toArray]; exact hu
  have c0 := cell_of_blk hb 0
  have c1 := cell_of_blk hb 1
  have c7 := cell_of_blk hb 7
  simp only [qCells] at X hb hz hld hxs c0 c1 c7 CM HRN ⊢
  simp only [List.size_toArray, List.getElem?_toArray, List.getElem?_cons_zero, List.getElem?_cons_succ] at c0 c1 c7
  have HCN0 := Lib.hid HRN
  have HLD0 := Lib.hid hld
  have HXS := Lib.hid hxs
  have HX := Lib.hid X
  have HB := Lib.hid hb
  have HZ := Lib.hid hz
  clear X hb hz hx hn hq hm HRN hld hxs
  go_enter Tryz.func10, Tryz.ntmps10
  go_upto_region 1 with fail
  generalize hW : (w.alloc (.cells #[.int .u8 q.kind, .int .u8 q.engine, .int .u64 q.size, .int .u64 q.index, .int .u64 q.old, .int .u64 q.bgn, .int .u64 q.fin, .slice ad n ca] 27)).alloc (.cells #[.int .i64 0, .int .i64 0] 36) = W0 at *
  have hB0 : w.heap.size + 2 = W0.heap.size := by rw [← hW]; simp
  clear hW
  go_wp2_with (refine wpList_loadAgg rfl 27 _ rfl w.heap.size 0 rfl (qCells q (.slice ad n ca)) Tryz.underlying27 rfl qry_size HLD0.out ?_)
  refine (CM _).mono ?_
  rintro e w1 ⟨rfl, u⟩
  have c0 := Ext.cellv u c0
  have c1 := Ext.cellv u c1
  have c7 := Ext.cellv u c7
  have HE1 := Lib.hid u
  have HZ1 := Lib.hid (Ext.blk u HZ.out)
  have HBE1 := Lib.hid (show w.heap.size + 2 ≤ w1.heap.size from Nat.le_trans (Nat.le_of_eq hB0) u.size)
  clear u CM
  by_cases h4 : 4096 < n
  · obtain ⟨rfl, rfl⟩ := hlim.out (.inl (by rw [HN.out]; exact h4))
    have d4 : (4096 : Int) < n := by omega
    clear h4
    go_wp2_with fail
    refine (CP _).mono ?_
    rintro e w2 ⟨rfl, u⟩
    have HZ2 := Lib.hid (Ext.blk u HZ1.out)
    have hF := Lib.hid (blk_setRow HZ2.out #[.int .i64 4, .int .i64 (-1)])
    have HUF := Lib.hid (((HX.out.trans HE1.out).trans u).setRow (g := w.heap.size + 1) (.inl (by omega)) #[.int .i64 4, .int .i64 (-1)])
    clear u CP
    go_wp2_with (refine store_whole rfl 36 _ _ rfl (w.heap.size + 1) rfl [.int .i64 4, .int .i64 (-1)] rfl fault_size2 [.int .i64 0, .int .i64 0] 36 HZ2.out rfl (fault_one _ _) ?_)
    exact bodyPost_ret (v := .tuple #[.string ⟨#[]⟩, .agg #[.int .i64 4, .int .i64 (-1)]]) (resRE _ _ (w.heap.size + 1) _ _ rfl rfl hF.out rfl) rfl ⟨rfl, HUF.out⟩
  have d4 : ¬ (4096 : Int) < n := by omega
  have HH4 := Lib.hid h4
  have hle : n ≤ 4096 := by omega
  clear h4
  generalize hbb : w.heap.size + 2 = B0 at *
  have HBE := Lib.hid hB0
  have c0a := cell_of_blk (blk_alloc w1 (.cells #[.int .u8 q.kind, .int .u8 q.engine] 5)) 0
  have UA := Lib.hid ((Upd.refl none' w1).alloc (.cells #[.int .u8 q.kind, .int .u8 q.engine] 5))
  have c0 := Ext.cellv UA.out c0
  have c1 := Ext.cellv UA.out c1
  have c7 := Ext.cellv UA.out c7
  have HOA := Lib.hid (own_fresh2 HBE1.out (.int .u8 q.kind) (.int .u8 q.engine))
  have HZA := Lib.hid (Ext.blk UA.out HZ1.out)
  have HB0 := Lib.hid (Nat.le_of_eq hB0)
  clear c0a hB0
  go_wp2_with (refine wpList_buildTwo rfl 93 5 _ _ rfl _ _ rfl rfl Tryz.underlying93 i0 (.int .u8 0) hi hz0 hz1 rfl rfl rfl ?_)
  refine (fields_any _ _).mono ?_
  rintro e w2 ⟨rfl, rfl⟩
  clear c0 c1
  have c7 := c7
  generalize hWA : w1.alloc (.cells #[.int .u8 q.kind, .int .u8 q.engine] 5) = WA at *
  have HEA := Lib.hid (HE1.out.trans UA.out)
  go_wp2_with fail
  go_loopw [4, 8] (fun sv iv wr => ∃ (i : Nat) (bs : List UInt8), iv = .int .i64 i ∧ i ≤ (letL q.kind).length ∧ bs = preE q i ∧ bs.length ≤ 1200000 + 100 * i ∧ (76 ∈ (letL q.kind).take i → ∀ t ∈ q.leaves, t.size ≤ 65536) ∧ wr.ownsRow B0 5 1 sv bs.length (bs.map u8v) ∧ Ext W0 wr) (fun _ iv _ => (letL q.kind).length - (RowKit.intOf iv).toNat)
  case atStart => exact ⟨0, headB q, rfl, Nat.zero_le _, (preE_zero q).symm, by rw [HHC.out.2]; omega, fun h => by simp at h, by rw [HHC.out.1, HHC.out.2]; exact HOA.out, HEA.out⟩
  case round =>
    obtain ⟨i, bs, rfl, hi1, hbs, hbl, hst, ho, hu⟩ := hrel
    have HBS := Lib.hid hbs
    have HBL := Lib.hid hbl
    have HST := Lib.hid hst
    have HO := Lib.hid ho
    have HU := Lib.hid hu
    have hpos : 2 ≤ bs.length := by rw [hbs]; unfold preE; rw [List.length_append, HHC.out.2]; omega
    have HPO := Lib.hid hpos
    have hls : (str (letL q.kind)).size = (letL q.kind).length := str_size _
    have HLS := Lib.hid hls
    have c7 : wr.cell? ⟨w.heap.size, 7, none⟩ = some (.slice ad n ca) := Ext.cellv hu (HLD0.out 7 _ rfl)
    clear hbs hbl hst ho hu hpos
    by_cases hlt : i < (letL q.kind).length
    · have hg := List.getElem?_eq_getElem hlt
      have hj2 : i < (str (letL q.kind)).size := by rw [hls]; exact hlt
      have hi3 : i ≤ 2 := by have := HSM.out; omega
      have hdx : (str (letL q.kind)).data[i]? = some ((letL q.kind)[i]'hlt) := (by simp [str] : (str _).data[i]? = _[i]?).trans hg
      have HID := Lib.hid (idx_strL (letL q.kind) i ((letL q.kind)[i]'hlt) hg)
      have hn76 := not76 ((letL q.kind)[i]'hlt)
      have HTK := Lib.hid (show (letL q.kind).take (i + 1) = (letL q.kind).take i ++ [((letL q.kind)[i]'hlt)] by rw [List.take_add_one, hg]; rfl)
      have HPS := Lib.hid (HLB.out i ((letL q.kind)[i]'hlt) hg)
      have HLG := Lib.hid (let_get q.kind i ((letL q.kind)[i]'hlt) hg)
      have hvl := fun m => varB_len m
      clear hg hls
      by_cases hc : ((letL q.kind)[i]'hlt) = 76
      · have d76 : ((((letL q.kind)[i]'hlt).toNat : Int) != 76) = false := by rw [hn76]; simp [hc]
        have HC := Lib.hid hc
        have HEL := Lib.hid (show preE q (i + 1) = bs ++ (varB n ++ textsB q.leaves) by rw [HPS.out, ← HBS.out]; unfold letB; rw [if_pos hc, HN.out])
        have hnw : IntKind.u64.wrap (n : Int) = (n : Int) := IntWalk.u64_in _ (by omega)
        have HV := Lib.hid (show bs.length + (str (varB n)).size ≤ maxLen ∧ bs.length + (str (varB n)).size ≤ 140737488355328 by rw [str_size]; have := hvl n; have := HBL.out; have := HSM.out; unfold maxLen; omega)
        have CV := rvar_any n (by omega) wr
        clear hc hn76 hvl
        go_wp2_with fail
        refine CV.mono ?_
        rintro e W5 ⟨rfl, u⟩
        have HO5 := Lib.hid (ownsRow_upd HO.out u (fun _ _ => id))
        have HU5 := Lib.hid (HU.out.trans u)
        have HS5 := Lib.hid (show B0 ≤ W5.heap.size from Nat.le_trans HB0.out (HU.out.trans u).size)
        clear u CV
        go_wp2_with (at_builtin; go_must (refine wpList_appStr rfl _ _ 93 9 rfl B0 5 i0 Tryz.underlying93 Tryz.underlying9 hi hz0 hz1 hz2 _ _ _ rfl HO5.out (str (varB n)) rfl HV.out.1 HV.out.2 HS5.out ?_))
        intro v6 W6 ho hg _
        have HO6 := Lib.hid (own_appB ho)
        have HU6 := Lib.hid (HU5.out.grown hg (fun k hk => .inl (Nat.le_trans (Nat.le_of_eq HBE.out.symm) (HO5.out.lt k hk).1)))
        clear ho hg c7
        go_wp2_with fail
        go_loopw [4, 9] (fun sv iv wr => ∃ (k : Nat) (bs2 : List UInt8), iv = .int .i64 k ∧ k ≤ n ∧ bs2 = bs ++ (varB n ++ textsB (q.leaves.take k)) ∧ bs2.length ≤ 1200000 + 100 * i + 50 ∧ (∀ t ∈ q.leaves.take k, t.size ≤ 65536) ∧ wr.ownsRow B0 5 1 sv bs2.length (bs2.map u8v) ∧ Ext W0 wr) (fun _ iv _ => n - (RowKit.intOf iv).toNat)
        case atStart => exact ⟨0, bs ++ varB n, rfl, Nat.zero_le _, by simp [textsB], by rw [List.length_append]; have := varB_len n; have := HBL.out; omega, fun t h => by simp at h, HO6.out, HU6.out⟩
        case round =>
          obtain ⟨k, bs2, rfl, hk1, hbs2, hbl2, hst2, ho, hu⟩ := hrel
          have HBS2 := Lib.hid hbs2
          have HBL2 := Lib.hid hbl2
          have HST2 := Lib.hid hst2
          have HO2 := Lib.hid ho
          have HU2 := Lib.hid hu
          have hpos : 2 ≤ bs2.length := by rw [hbs2, List.length_append]; have := HPO.out; omega
          have c7 : wr.cell? ⟨w.heap.size, 7, none⟩ = some (.slice ad n ca) := Ext.cellv hu (HLD0.out 7 _ rfl)
          have hfm := own_form ho
          have HBOD := Lib.hid (show bs2.length ≤ q.body.length by
            have h1 := preE_le q (i + 1)
            have h2 := textsB_take_le q.leaves k
            rw [HEL.out] at h1
            rw [hbs2]
            simp only [List.length_append] at h1 ⊢; omega)
          clear hbs2 hbl2 hst2 ho hu
          by_cases hkn : k < n
          · have hkl : k < q.leaves.length := by rw [HN.out]; exact hkn
            have hg := List.getElem?_eq_getElem hkl
            generalize q.leaves[k] = t at hg
            obtain ⟨hts, b, o, rfl, hct⟩ := (HXS.out.later HU2.out) k t hg
            have HTX := Lib.hid (texts_take q.leaves k t hg)
            have HMT := Lib.hid (List.mem_of_getElem? hg)
            have HTK2 := Lib.hid (show q.leaves.take (k + 1) = q.leaves.take k ++ [t] by rw [List.take_add_one, hg]; rfl)
            have hki : (k : Int) < n := by omega
            clear hg hkl
            rcases hfm with ⟨_, hbad⟩ | ⟨g7, cap7, rfl, _⟩
            · omega
            by_cases h65 : 65536 < t.size
            · obtain ⟨rfl, rfl⟩ := hlim.out (.inr (.inl ⟨t, HMT.out, h65⟩))
              have d65 : (65536 : Int) < t.size := by omega
              clear h65
              go_wp2_with fail
              refine (CP _).mono ?_
              rintro e W7 ⟨rfl, u⟩
              have HZ7 := Lib.hid (Ext.blk (HU2.out.trans u) HZ.out)
              have hF := Lib.hid (blk_setRow HZ7.out #[.int .i64 4, .int .i64 (-1)])
              have HUF := Lib.hid (((HX.out.trans HU2.out).trans u).setRow (g := w.heap.size + 1) (.inl (by omega)) #[.int .i64 4, .int .i64 (-1)])
              clear u CP
              go_wp2_with (refine store_whole rfl 36 _ _ rfl (w.heap.size + 1) rfl [.int .i64 4, .int .i64 (-1)] rfl fault_size2 [.int .i64 0, .int .i64 0] 36 HZ7.out rfl (fault_one _ _) ?_)
              exact bodyPost_ret (v := .tuple #[.string ⟨#[]⟩, .agg #[.int .i64 4, .int .i64 (-1)]]) (resRE _ _ (w.heap.size + 1) _ _ rfl rfl hF.out rfl) rfl ⟨rfl, HUF.out⟩
            have d65 : ¬ (65536 : Int) < t.size := by omega
            by_cases hbig : 1048576 < bs2.length
            · obtain ⟨rfl, rfl⟩ := hlim.out (.inr (.inr (by have := HBOD.out; omega)))
              have dbig : (1048576 : Int) < bs2.length := by omega
              clear h65 hbig
              go_wp2_with fail
              refine (CP _).mono ?_
              rintro e W7 ⟨rfl, u⟩
              have HZ7 := Lib.hid (Ext.blk (HU2.out.trans u) HZ.out)
              have hF := Lib.hid (blk_setRow HZ7.out #[.int .i64 4, .int .i64 (-1)])
              have HUF := Lib.hid (((HX.out.trans HU2.out).trans u).setRow (g := w.heap.size + 1) (.inl (by omega)) #[.int .i64 4, .int .i64 (-1)])
              clear u CP
              go_wp2_with (refine store_whole rfl 36 _ _ rfl (w.heap.size + 1) rfl [.int .i64 4, .int .i64 (-1)] rfl fault_size2 [.int .i64 0, .int .i64 0] 36 HZ7.out rfl (fault_one _ _) ?_)
              exact bodyPost_ret (v := .tuple #[.string ⟨#[]⟩, .agg #[.int .i64 4, .int .i64 (-1)]]) (resRE _ _ (w.heap.size + 1) _ _ rfl rfl hF.out rfl) rfl ⟨rfl, HUF.out⟩
            have dbig : ¬ (1048576 : Int) < bs2.length := by omega
            have CT := rtext_any t (by omega) wr
            have hll : t.data.toList.length = t.size := by rw [Array.length_toList]; rfl
            have hvt := varB_len t.size
            have HV7 := Lib.hid (show bs2.length + (str (varB t.size ++ t.data.toList)).size ≤ maxLen ∧ bs2.length + (str (varB t.size ++ t.data.toList)).size ≤ 140737488355328 by rw [str_size, List.length_append, hll]; unfold maxLen; omega)
            have HL7 := Lib.hid (show (bs2 ++ (varB t.size ++ t.data.toList)).length ≤ 1200000 + 100 * i + 50 by rw [List.length_append, List.length_append, hll]; omega)
            have HS7 := Lib.hid (show ∀ u ∈ q.leaves.take (k + 1), u.size ≤ 65536 by
              rw [HTK2.out]
              intro u hu
              rcases List.mem_append.1 hu with h | h
              · exact HST2.out u h
              · rw [List.mem_singleton.1 h]; omega)
            clear h65 hbig hll hvt hts
            go_wp2_with fail
            refine CT.mono ?_
            rintro e W7 ⟨rfl, u⟩
            have HO7 := Lib.hid (ownsRow_upd HO2.out u (fun _ _ => id))
            have HU7 := Lib.hid (HU2.out.trans u)
            have HSZ7 := Lib.hid (show B0 ≤ W7.heap.size from Nat.le_trans HB0.out (HU2.out.trans u).size)
            clear u CT
            go_wp2_with (at_builtin; go_must (refine wpList_appStr rfl _ _ 93 9 rfl B0 5 i0 Tryz.underlying93 Tryz.underlying9 hi hz0 hz1 hz2 _ _ _ rfl HO7.out (str (varB t.size ++ t.data.toList)) rfl HV7.out.1 HV7.out.2 HSZ7.out ?_))
            intro v8 W8 ho hg _
            have HO8 := Lib.hid (own_appB (l := varB t.size ++ t.data.toList) (by rw [show (str (varB t.size ++ t.data.toList)).size = (varB t.size).length + t.size from by rw [str_size, List.length_append, Array.length_toList]; rfl]; exact ho))
            have HU8 := Lib.hid (HU7.out.grown hg (fun k hk => .inl (Nat.le_trans (Nat.le_of_eq HBE.out.symm) (HO7.out.lt k hk).1)))
            clear ho hg
            go_wp2_with fail
            exact ⟨⟨k + 1, bs2 ++ (varB t.size ++ t.data.toList), by simp, by omega, by rw [HTX.out, HBS2.out]; simp only [List.append_assoc], HL7.out, HS7.out, HO8.out, HU8.out⟩, by simp [RowKit.intOf]; omega⟩
          · obtain rfl : k = n := by omega
            have HTA := Lib.hid (show q.leaves.take k = q.leaves by rw [← HN.out, List.take_length])
            clear hfm
            go_wp2_with fail
            exact ⟨⟨i + 1, bs2, by simp, by omega, by rw [HEL.out, HBS2.out, HTA.out], by have := HBL2.out; omega, fun _ => by have := HST2.out; rwa [HTA.out] at this, HO2.out, HU2.out⟩, by simp [RowKit.intOf]; omega⟩
      · have d76 : ((((letL q.kind)[i]'hlt).toNat : Int) != 76) = true := by rw [hn76]; simp [hc]
        have HCN := Lib.hid (fun w1 => HCN0.out ((letL q.kind)[i]'hlt) w1)
        have HNL := Lib.hid (HNQ.out (idxL ((letL q.kind)[i]'hlt)))
        have HLD := Lib.hid (fun (w1 : World) (hX : Ext wr w1) (i : Nat) (u : Value) (hu : (qCells q (.slice ad n ca))[i]? = some u) => Ext.cellv (HU.out.trans hX) (HLD0.out i u hu))
        have HV := Lib.hid (show bs.length + (str (varB (numQ q (idxL ((letL q.kind)[i]'hlt))))).size ≤ maxLen ∧ bs.length + (str (varB (numQ q (idxL ((letL q.kind)[i]'hlt))))).size ≤ 140737488355328 by rw [str_size]; have := hvl (numQ q (idxL ((letL q.kind)[i]'hlt))); have := HBL.out; have := HSM.out; unfold maxLen; omega)
        have HPN := Lib.hid (show bs ++ varB (numQ q (idxL ((letL q.kind)[i]'hlt))) = preE q (i + 1) by rw [HPS.out, ← HBS.out]; unfold letB; rw [if_neg hc])
        have HL3 := Lib.hid (show (bs ++ varB (numQ q (idxL ((letL q.kind)[i]'hlt)))).length ≤ 1200000 + 100 * (i + 1) by rw [List.length_append]; have := hvl (numQ q (idxL ((letL q.kind)[i]'hlt))); have := HBL.out; omega)
        have HM3 := Lib.hid (show 76 ∈ (letL q.kind).take (i + 1) → ∀ t ∈ q.leaves, t.size ≤ 65536 by
          rw [HTK.out]
          intro h
          rcases List.mem_append.1 h with h | h
          · exact HST.out h
          · exact absurd (List.mem_singleton.1 h).symm hc)
        clear hc hn76 hvl c7
        go_wp2_with fail
        refine region_tail 7 (fun _ => ⟨0, 0, none⟩) [.inl u4, .inl (.agg (qCells q (.slice ad n ca)).toArray), .inl (.string (str (letL q.kind))), .inl (.int .i64 (i : Int)), .inl (.int .u8 (((letL q.kind)[i]'hlt).toNat : Int)), .inl (.int .u64 (numQ q (idxL ((letL q.kind)[i]'hlt)))), .inl (.string (str (varB (numQ q (idxL ((letL q.kind)[i]'hlt))))))] (by kernel_rfl) (by kernel_rfl) (by rfl) (by rfl) (by rfl) (by rfl) ?_ ?_
        rotate_left
        · intro v w' X hv
          have h41 := slot_val (hv 0 _ 41 rfl rfl) rfl
          have h47 := slot_val (hv 6 _ 47 rfl rfl) rfl
          have HX2 := Lib.hid X
          have HO2 := Lib.hid (ownsRow_upd HO.out X (fun _ _ => id))
          have HS2 := Lib.hid (show B0 ≤ w'.heap.size from Nat.le_trans HB0.out (HU.out.trans X).size)
          clear X hv
          refine any_norm (by simp only [List.take, putAll]; rewrite [h41, h47]; go_simp; all_goals exact rfl) ?_
          clear h41 h47
          refine any1 7 (by kernel_rfl) ?_
          refine op_appStr rfl (by rfl) (.tmp 41) (.tmp 47) 93 9 rfl B0 5 i0 Tryz.underlying93 Tryz.underlying9 hi hz0 hz1 hz2 _ _ _ rfl HO2.out (str (varB (numQ q (idxL ((letL q.kind)[i]'hlt))))) rfl HV.out.1 HV.out.2 HS2.out ?_
          intro v' w3 ho hg _
          have HO3 := Lib.hid (own_appB ho)
          have HU3 := Lib.hid ((HU.out.trans HX2.out).grown hg (fun k hk => .inl (Nat.le_trans (Nat.le_of_eq HBE.out.symm) (HO2.out.lt k hk).1)))
          clear ho hg
          refine any_norm (by go_simp; all_goals exact rfl) ?_
          refine any1 8 (by kernel_rfl) ?_
          refine op_assign rfl (by rfl) rfl _ rfl ?_
          refine any_norm (by go_simp; all_goals exact rfl) ?_
          refine wpAny_done (by kernel_rfl) ?_ _
          go_wp2_with fail
          exact ⟨⟨i + 1, _, by simp, by omega, HPN.out, HL3.out, HM3.out, HO3.out, HU3.out⟩, by simp [RowKit.intOf]; omega⟩
        refine ⟨ty_move (gd_none rfl) rfl rfl (kn_old 4 rfl rfl), ?_⟩
        refine ⟨ty_loadAgg 27 w.heap.size 0 _ (gd_none rfl) rfl rfl (kn_old 1 rfl rfl) Tryz.underlying27 rfl qry_size HLD.out, ?_⟩
        refine ⟨ty_move (gd_none rfl) rfl rfl (kn_old 5 rfl rfl), ?_⟩
        refine ⟨ty_move (gd_none rfl) rfl rfl (kn_old 8 rfl rfl), ?_⟩
        refine ⟨ty_index _ _ _ (gd_none rfl) rfl rfl (kn_new 2 rfl rfl rfl rfl) (kn_new 3 rfl rfl rfl rfl) HID.out, ?_⟩
        refine ⟨ty_call2 36 _ _ _ _ _ (gd_none rfl) rfl body_rnumber (kn_new 1 rfl rfl rfl rfl) (kn_new 4 rfl rfl rfl rfl) (fun w1 _ => known_call rfl (HCN.out w1)), ?_⟩
        refine ⟨ty_call1 35 _ _ _ (gd_none rfl) rfl body_rvar (kn_new 5 rfl rfl rfl rfl) (fun w1 _ => known_call rfl (rvar_any _ HNL.out w1)), ?_⟩
        exact trivial
    · obtain rfl : i = (letL q.kind).length := by omega
      have hall : bs = q.body := by rw [HBS.out, preE_all]
      have HALL := Lib.hid hall
      have hfm := own_form HO.out
      have hst := run_str_own wr HO.out
      have HZ6 := Lib.hid (Ext.blk HU.out HZ.out)
      have HPO2 := HPO.out
      clear hall c7
      rcases hfm with ⟨_, hbad⟩ | ⟨g7, cap7, rfl, _⟩
      · omega
      by_cases hbig : 1048576 < bs.length
      · obtain ⟨rfl, rfl⟩ := hlim.out (.inr (.inr (by rw [← HALL.out]; exact hbig)))
        have dbig : (1048576 : Int) < bs.length := by omega
        clear hbig hst
        go_wp2_with fail
        refine (CP _).mono ?_
        rintro e W7 ⟨rfl, u⟩
        have HZ7 := Lib.hid (Ext.blk u HZ6.out)
        have hF := Lib.hid (blk_setRow HZ7.out #[.int .i64 4, .int .i64 (-1)])
        have HUF := Lib.hid (((HX.out.trans HU.out).trans u).setRow (g := w.heap.size + 1) (.inl (by omega)) #[.int .i64 4, .int .i64 (-1)])
        clear u CP
        go_wp2_with (refine store_whole rfl 36 _ _ rfl (w.heap.size + 1) rfl [.int .i64 4, .int .i64 (-1)] rfl fault_size2 [.int .i64 0, .int .i64 0] 36 HZ7.out rfl (fault_one _ _) ?_)
        exact bodyPost_ret (v := .tuple #[.string ⟨#[]⟩, .agg #[.int .i64 4, .int .i64 (-1)]]) (resRE _ _ (w.heap.size + 1) _ _ rfl rfl hF.out rfl) rfl ⟨rfl, HUF.out⟩
      · have dbig : ¬ (1048576 : Int) < bs.length := by omega
        have hnl : ¬ limE q := by
          rintro (h | ⟨t, h1, h2⟩ | h)
          · rw [HN.out] at h; exact HH4.out h
          · rcases HLV.out with ha | ha
            · have h76 : 76 ∈ (letL q.kind).take (letL q.kind).length := by
                rw [List.take_length]
                have := let_L q.kind
                rw [ha] at this
                exact List.contains_iff_mem.1 this
              have := HST.out h76 t h1; omega
            · rw [ha] at h1; cases h1
          · rw [← HALL.out] at h; exact hbig h
        obtain ⟨rfl, rfl⟩ := hok.out hnl
        have hF := Lib.hid (blk_setRow HZ6.out #[.int .i64 0, .int .i64 0])
        have HUF := Lib.hid ((HX.out.trans HU.out).setRow (g := w.heap.size + 1) (.inl (by omega)) #[.int .i64 0, .int .i64 0])
        clear hbig hnl
        go_wp2_with (refine store_whole rfl 36 _ _ rfl (w.heap.size + 1) rfl [.int .i64 0, .int .i64 0] rfl fault_size2 [.int .i64 0, .int .i64 0] 36 HZ6.out rfl (fault_one _ _) ?_)
        exact bodyPost_ret (v := .tuple #[.string (str bs), .agg #[.int .i64 0, .int .i64 0]]) (resRE _ _ (w.heap.size + 1) _ _ rfl rfl hF.out rfl) rfl ⟨by rw [HALL.out]; rfl, HUF.out⟩
set_option maxRecDepth 8000 in
set_option maxHeartbeats 2000000 in
theorem refE_no {w : World} (q : QryD) (hq : q.Ok) (ad : Option Addr) (ca : Nat) (hm : mayB q = false) :
    Calls Tryz.prog 10 #[.agg (qCells q (.slice ad q.leaves.length ca)).toArray] w (RefPost w [] (some (2, none))) := by
  have CM := fun w1 => mayR_any (w := w1) q hq ad ca
  rw [hm] at CM
  have X := ((Upd.refl none' w).alloc (.cells (qCells q (.slice ad q.leaves.length ca)).toArray 27)).alloc (.cells #[.int .i64 0, .int .i64 0] 36)
  have hb := blk_alloc_lt (blk_alloc w (.cells (qCells q (.slice ad q.leaves.length ca)).toArray 27)) (.cells #[.int .i64 0, .int .i64 0] 36)
  have hz := blk_alloc (w.alloc (.cells (qCells q (.slice ad q.leaves.length ca)).toArray 27)) (.cells #[.int .i64 0, .int .i64 0] 36)
  rw [World.size_alloc] at hz
  have CP : ∀ w1 : World, Calls Tryz.prog 33 #[.int .i64 2] w1 fun e w' => e = .returned (.agg #[.int .i64 2, .int .i64 (-1)]) ∧ Ext w1 w' := fun w1 => by
    have h := plain_any 2 w1
    rw [if_neg (by decide)] at h
    exact h
  have hld : ∀ (i : Nat) (u : Value), (qCells q (.slice ad q.leaves.length ca))[i]? = some u → World.cell? ((w.alloc (.cells (qCells q (.slice ad q.leaves.length ca)).toArray 27)).alloc (.cells #[.int .i64 0, .int .i64 0] 36)) ⟨w.heap.size, 0 + i, none⟩ = some u := fun i u hu => by
    rw [cell_of_blk hb, Nat.zero_add, List.getElem?_toArray]; exact hu
  simp only [qCells] at X hb hz hld CM ⊢
  have HLD0 := Lib.hid hld
  have HX := Lib.hid X
  have HZ := Lib.hid hz
  clear X hb hz hq hm hld
  go_enter Tryz.func10, Tryz.ntmps10
  go_upto_region 1 with fail
  generalize hW : (w.alloc (.cells #[.int .u8 q.kind, .int .u8 q.engine, .int .u64 q.size, .int .u64 q.index, .int .u64 q.old, .int .u64 q.bgn, .int .u64 q.fin, .slice ad q.leaves.length ca] 27)).alloc (.cells #[.int .i64 0, .int .i64 0] 36) = W0 at *
  clear hW
  go_wp2_with (refine wpList_loadAgg rfl 27 _ rfl w.heap.size 0 rfl (qCells q (.slice ad q.leaves.length ca)) Tryz.underlying27 rfl qry_size HLD0.out ?_)
  refine (CM _).mono ?_
  rintro e w1 ⟨rfl, u⟩
  have HE1 := Lib.hid u
  have HZ1 := Lib.hid (Ext.blk u HZ.out)
  clear u CM
  go_wp2_with fail
  refine (CP _).mono ?_
  rintro e w2 ⟨rfl, u⟩
  have HZ2 := Lib.hid (Ext.blk u HZ1.out)
  have hF := Lib.hid (blk_setRow HZ2.out #[.int .i64 2, .int .i64 (-1)])
  have HUF := Lib.hid (((HX.out.trans HE1.out).trans u).setRow (g := w.heap.size + 1) (.inl (by omega)) #[.int .i64 2, .int .i64 (-1)])
  clear u CP
  go_wp2_with (refine store_whole rfl 36 _ _ rfl (w.heap.size + 1) rfl [.int .i64 2, .int .i64 (-1)] rfl fault_size2 [.int .i64 0, .int .i64 0] 36 HZ2.out rfl (fault_one _ _) ?_)
  exact bodyPost_ret (v := .tuple #[.string ⟨#[]⟩, .agg #[.int .i64 2, .int .i64 (-1)]]) (resRE _ _ (w.heap.size + 1) _ _ rfl rfl hF.out rfl) rfl ⟨rfl, HUF.out⟩
/-- The document's EncodeQuery, of any query. -/
theorem refE_any {w : World} (q : QryD) (hq : q.Ok) (ad : Option Addr) (ca : Nat) (hx : TextsAt w ad q.leaves) :
    Calls Tryz.prog 10 #[.agg (qCells q (.slice ad q.leaves.length ca)).toArray] w (RefPost w (qryB q) (qryE q)) := by
  cases hm : mayB q with
  | true => exact refE_may q hq ad ca hx _ _ hm (Lib.hid (ref_lim q hm)) (Lib.hid (ref_ok q hm))
  | false =>
    have e1 : qryB q = [] := by unfold qryB; rw [if_pos hm]
    have e2 : qryE q = some (2, none) := by unfold qryE; rw [if_pos hm]
    rw [e1, e2]; exact refE_no q hq ad ca hm
end Go.Proofs.YtljnhelnmnomoaaGreatDoor
