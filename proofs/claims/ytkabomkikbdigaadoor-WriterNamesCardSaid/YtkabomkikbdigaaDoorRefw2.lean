/- cartularyref02.Fixed by contracts; the statements' form and put. -/
import Derived.Test.YtkabomkikbdigaaDoorRefw
namespace Go.Proofs.YtkabomkikbdigaaDoor
open Go.RowKit Go.Lib

theorem rfixed_bad (n : Nat) (k : Int) (hk : k < 1 ∨ 8 < k) (w : World) : Calls Tryd.prog 41 #[.int .u64 n, .int .i64 k] w fun e w' => e = .returned (.tuple #[.string ⟨#[]⟩, .agg #[.int .i64 2, .int .i64 (-1)]]) ∧ Ext w w' := by
  have X := (Upd.refl none' w).alloc (.cells #[.int .i64 0, .int .i64 0] 39)
  have C := plain_any 2 (w.alloc (.cells #[.int .i64 0, .int .i64 0] 39))
  have hh : ((decide (k < 1) = true) ∨ (decide (k < 1) = false ∧ decide (8 < k) = true)) := by
    by_cases h : k < 1
    · exact .inl (by simpa using h)
    · exact .inr ⟨by simpa using h, by simp; omega⟩
  have hb := blk_alloc w (.cells #[.int .i64 0, .int .i64 0] 39)
  have HB := Lib.hid hb
  have HX := Lib.hid X
  clear hk X hb
  rcases hh with h1 | ⟨h1, h2⟩
  all_goals
    go_enter Tryd.func41, Tryd.ntmps41
    go_wp2_with fail
    refine C.mono ?_
    rintro e w1 ⟨rfl, hU⟩
    have hb1 := Ext.blk hU HB.out
    have c0 := cell_of_blk hb1 0
    have c1 := cell_of_blk hb1 1
    have f0 := free_of_blk hb1 0
    have f1 := free_of_blk hb1 1
    have HU := Lib.hid hU
    clear hb1 hU
    go_wp2_with fail
    exact bodyPost_ret (v := .tuple #[.string ⟨#[]⟩, .agg #[.int .i64 2, .int .i64 (-1)]]) (by simp [results, Tryd.results41, go_sem, c0, c1]) rfl ⟨rfl, ((HX.out.trans (HU.out.mono (fun _ _ h => h))).setCell (.inl (Nat.le_refl _)) _).setCell (.inl (Nat.le_refl _)) _⟩

/-- make([]byte, k). -/
theorem run_make_u8 (k : Nat) (hk : k ≤ 140737488355328) (u : World) : (Instr.makeSlice 28 (.int .i64 k) (.int .i64 k)).run Tryd.prog u = .ok (.slice (some ⟨u.heap.size, 0, none⟩) k k) (u.alloc (.cells (Array.replicate k (.int .u8 0)) 5)) := by
  obtain ⟨i0, hi, hz0, hz1, hz2⟩ := info_parts info_u8
  have h := run_make (P := Tryd.prog) u 28 5 i0 (.int .u8 0) Tryd.underlying28 hi hz0 .i64 .i64 (k : Int) (k : Int) (by omega) (Int.le_refl _) (by rw [hz2]; omega) (by omega)
  have e : madeCells #[Value.int .u8 0] k = Array.replicate k (.int .u8 0) := by
    apply Array.ext'
    rw [toList_madeCells_one]
    simp
  rw [hz1, Int.toNat_natCast, Nat.mul_one] at h
  rw [h]
  show Result.ok _ (u.alloc (.cells (madeCells #[Value.int .u8 0] k) 5)) = _
  rw [e]
theorem set_mid (g : Nat) (x : UInt8) (rest : List UInt8) (y : Value) (hy : y = u8v x) : (((List.replicate (g + 1) (0 : UInt8) ++ rest).map u8v).toArray).setIfInBounds g y = ((List.replicate g (0 : UInt8) ++ x :: rest).map u8v).toArray := by
  subst hy
  rw [List.setIfInBounds_toArray]
  congr 1
  induction g with
  | zero => simp
  | succ g ih => rw [List.replicate_succ, List.replicate_succ (n := g)]; simpa [List.replicate_succ] using ih
/-- What the loop of Fixed keeps. -/
def FixRel (w wr : World) (n k : Nat) (nv iv : Value) : Prop := ∃ (z : Int) (j d m : Nat), iv = .int .i64 z ∧ z = j - 1 ∧ nv = .int .u64 m ∧ j + d = k ∧ m = n / 2 ^ (8 * d) ∧
  wr.heap[w.heap.size + 1]? = some (.cells ((List.replicate j (0 : UInt8) ++ fixB d n).map u8v).toArray 5 (0, 0)) ∧ wr.heap[w.heap.size]? = some (.cells #[.int .i64 0, .int .i64 0] 39 (0, 0)) ∧ Ext w wr

set_option maxRecDepth 8000 in
set_option maxHeartbeats 1000000 in
theorem rfixed_ok (n k : Nat) (hn : n < 18446744073709551616) (hk : 1 ≤ k) (hk2 : k ≤ 8) (w : World) (h0 : n / 2 ^ (8 * k) = 0) : Calls Tryd.prog 41 #[.int .u64 n, .int .i64 k] w fun e w' => e = .returned (.tuple #[.string (str (fixB k n)), .agg #[.int .i64 0, .int .i64 0]]) ∧ Ext w w' := by
  have d1 : decide ((k : Int) < 1) = false := by simp; omega
  have d2 : decide (8 < (k : Int)) = false := by simp; omega
  have X1 := (Upd.refl none' w).alloc (.cells #[.int .i64 0, .int .i64 0] 39)
  have X2 := X1.alloc (.cells (Array.replicate k (.int .u8 0)) 5)
  have hb := blk_alloc_lt (blk_alloc w (.cells #[.int .i64 0, .int .i64 0] 39)) (.cells (Array.replicate k (.int .u8 0)) 5)
  have hg := blk_alloc (w.alloc (.cells #[.int .i64 0, .int .i64 0] 39)) (.cells (Array.replicate k (.int .u8 0)) 5)
  have start : FixRel w ((w.alloc (.cells #[.int .i64 0, .int .i64 0] 39)).alloc (.cells (Array.replicate k (.int .u8 0)) 5)) n k (.int .u64 n) (.int .i64 ((k : Int) - 1)) :=
    ⟨_, k, 0, n, rfl, rfl, rfl, rfl, by simp, by
      have e : ((List.replicate k (0 : UInt8) ++ fixB 0 n).map u8v).toArray = Array.replicate k (.int .u8 0) := by simp [fixB]
      rw [e]; simpa using hg, hb, X2⟩
  have ST := Lib.hid start
  have hm := run_make_u8 k (by omega)
  have H0 := Lib.hid h0
  clear X1 X2 hb hg start h0
  go_enter Tryd.func41, Tryd.ntmps41
  go_wp2
  go_loopw [0, 7] (fun nv iv wr => FixRel w wr n k nv iv) (fun _ iv _ => (intOf iv + 1).toNat)
  case atStart => exact ST.out
  case round =>
    obtain ⟨z, j, d, m, rfl, hz, rfl, hj, hmd, hg, hb, hu⟩ := hrel
    clear hm
    have HU := Lib.hid hu
    have HG := Lib.hid hg
    have HB := Lib.hid hb
    have HD := Lib.hid hmd
    have HJ := Lib.hid hj
    have hm64 : m < 18446744073709551616 := by rw [hmd]; exact Nat.lt_of_le_of_lt (Nat.div_le_self _ _) hn
    by_cases hj0 : j = 0
    · subst hj0
      obtain rfl : z = -1 := by omega
      obtain rfl : d = k := by omega
      obtain rfl : m = 0 := by rw [hmd]; exact H0.out
      have ho : wr.ownsRow 0 5 1 (.slice (some ⟨w.heap.size + 1, 0, none⟩) d d) (fixB d n).length ((fixB d n).map u8v) := by
        refine ⟨by simp, .inr ⟨w.heap.size + 1, d, _, by rw [fixB_len], Nat.zero_le _, hg, by rw [fixB_len]; exact Nat.le_refl _, by unfold maxLen; omega, by simp [fixB_len], ?_⟩⟩
        simp only [fixB_len, List.replicate_zero, List.nil_append, Nat.mul_one]
        exact List.take_of_length_le (by simp [fixB_len])
      have hst := run_str_own wr ho
      have c0 := cell_of_blk hb 0
      have c1 := cell_of_blk hb 1
      have f0 := free_of_blk hb 0
      have f1 := free_of_blk hb 1
      clear hu hg hb hmd hj hz ho
      go_wp2_with fail
      exact bodyPost_ret (v := .tuple #[.string (str (fixB d n)), .agg #[.int .i64 0, .int .i64 0]]) (by simp [results, Tryd.results41, go_sem, c0, c1]) rfl ⟨rfl, (HU.out.setCell (.inl (Nat.le_refl _)) _).setCell (.inl (Nat.le_refl _)) _⟩
    · obtain ⟨g, rfl⟩ : ∃ g, j = g + 1 := ⟨j - 1, by omega⟩
      obtain rfl : z = g := by omega
      have hgz : g < k := by omega
      have hc : wr.cell? ⟨w.heap.size + 1, g, none⟩ = some (.int .u8 0) := by
        rw [cell_of_blk hg]; simp [List.getElem?_append]
      have hf : wr.frozen? ⟨w.heap.size + 1, g, none⟩ = false := free_of_blk hg g
      have hmv : (m : Int) % 256 = ((m % 256 : Nat) : Int) := by omega
      have hmq : m / 256 = n / 2 ^ (8 * (d + 1)) := by
        rw [hmd, Nat.div_div_eq_div_mul, show 2 ^ (8 * (d + 1)) = 2 ^ (8 * d) * 256 from by rw [show 8 * (d + 1) = 8 * d + 8 from by omega, Nat.pow_add]]
      have hx : (m % 256).toUInt8.toNat = m % 256 := by rw [Nat.toUInt8, UInt8.toNat_ofNat']; omega
      have key : FixRel w (wr.setCell ⟨w.heap.size + 1, g, none⟩ (.int .u8 ((m : Int) % 256))) n k (.int .u64 ((m : Int) / 256)) (.int .i64 ((g : Int) - 1)) := by
        refine ⟨_, g, d + 1, m / 256, rfl, rfl, by simp, by omega, hmq, ?_, ?_, hu.setCell (.inl (Nat.le_succ _)) _⟩
        · rw [blk_set hg, set_mid g (m % 256).toUInt8 _ _ (by rw [hmv]; simp only [u8v, hx])]
          simp only [fixB, hmd]
        · exact blk_set_ne hb (by simp) _
      have KEY := Lib.hid key
      clear hu hg hb hmd hj hz hmv hmq hx key
      go_wp2_with fail
      refine ⟨KEY.out, by simp [intOf]; try omega⟩
set_option maxRecDepth 8000 in
set_option maxHeartbeats 1000000 in
theorem rfixed_big (n k : Nat) (hn : n < 18446744073709551616) (hk : 1 ≤ k) (hk2 : k ≤ 8) (w : World) (h0 : n / 2 ^ (8 * k) ≠ 0) : Calls Tryd.prog 41 #[.int .u64 n, .int .i64 k] w fun e w' => e = .returned (.tuple #[.string ⟨#[]⟩, .agg #[.int .i64 2, .int .i64 (-1)]]) ∧ Ext w w' := by
  have d1 : decide ((k : Int) < 1) = false := by simp; omega
  have d2 : decide (8 < (k : Int)) = false := by simp; omega
  have X1 := (Upd.refl none' w).alloc (.cells #[.int .i64 0, .int .i64 0] 39)
  have X2 := X1.alloc (.cells (Array.replicate k (.int .u8 0)) 5)
  have hb := blk_alloc_lt (blk_alloc w (.cells #[.int .i64 0, .int .i64 0] 39)) (.cells (Array.replicate k (.int .u8 0)) 5)
  have hg := blk_alloc (w.alloc (.cells #[.int .i64 0, .int .i64 0] 39)) (.cells (Array.replicate k (.int .u8 0)) 5)
  have start : FixRel w ((w.alloc (.cells #[.int .i64 0, .int .i64 0] 39)).alloc (.cells (Array.replicate k (.int .u8 0)) 5)) n k (.int .u64 n) (.int .i64 ((k : Int) - 1)) :=
    ⟨_, k, 0, n, rfl, rfl, rfl, rfl, by simp, by
      have e : ((List.replicate k (0 : UInt8) ++ fixB 0 n).map u8v).toArray = Array.replicate k (.int .u8 0) := by simp [fixB]
      rw [e]; simpa using hg, hb, X2⟩
  have ST := Lib.hid start
  have hm := run_make_u8 k (by omega)
  have H0 := Lib.hid h0
  clear X1 X2 hb hg start h0
  go_enter Tryd.func41, Tryd.ntmps41
  go_wp2
  go_loopw [0, 7] (fun nv iv wr => FixRel w wr n k nv iv) (fun _ iv _ => (intOf iv + 1).toNat)
  case atStart => exact ST.out
  case round =>
    obtain ⟨z, j, d, m, rfl, hz, rfl, hj, hmd, hg, hb, hu⟩ := hrel
    clear hm
    have HU := Lib.hid hu
    have HG := Lib.hid hg
    have HB := Lib.hid hb
    have HD := Lib.hid hmd
    have HJ := Lib.hid hj
    have hm64 : m < 18446744073709551616 := by rw [hmd]; exact Nat.lt_of_le_of_lt (Nat.div_le_self _ _) hn
    by_cases hj0 : j = 0
    · subst hj0
      obtain rfl : z = -1 := by omega
      obtain rfl : d = k := by omega
      have hm0 : 0 < m := by rw [hmd]; exact Nat.pos_of_ne_zero H0.out
      have C := plain_any 2 wr
      clear hu hg hb hmd hj hz
      go_wp2_with fail
      refine C.mono ?_
      rintro e w1 ⟨rfl, hU1⟩
      have hb1 := Ext.blk hU1 HB.out
      have c0 := cell_of_blk hb1 0
      have c1 := cell_of_blk hb1 1
      have f0 := free_of_blk hb1 0
      have f1 := free_of_blk hb1 1
      have HU1 := Lib.hid hU1
      clear hb1 hU1
      go_wp2_with fail
      exact bodyPost_ret (v := .tuple #[.string ⟨#[]⟩, .agg #[.int .i64 2, .int .i64 (-1)]]) (by simp [results, Tryd.results41, go_sem, c0, c1]) rfl ⟨rfl, ((HU.out.trans (HU1.out.mono (fun _ _ h => h))).setCell (.inl (Nat.le_refl _)) _).setCell (.inl (Nat.le_refl _)) _⟩
    · obtain ⟨g, rfl⟩ : ∃ g, j = g + 1 := ⟨j - 1, by omega⟩
      obtain rfl : z = g := by omega
      have hgz : g < k := by omega
      have hc : wr.cell? ⟨w.heap.size + 1, g, none⟩ = some (.int .u8 0) := by
        rw [cell_of_blk hg]; simp [List.getElem?_append]
      have hf : wr.frozen? ⟨w.heap.size + 1, g, none⟩ = false := free_of_blk hg g
      have hmv : (m : Int) % 256 = ((m % 256 : Nat) : Int) := by omega
      have hmq : m / 256 = n / 2 ^ (8 * (d + 1)) := by
        rw [hmd, Nat.div_div_eq_div_mul, show 2 ^ (8 * (d + 1)) = 2 ^ (8 * d) * 256 from by rw [show 8 * (d + 1) = 8 * d + 8 from by omega, Nat.pow_add]]
      have hx : (m % 256).toUInt8.toNat = m % 256 := by rw [Nat.toUInt8, UInt8.toNat_ofNat']; omega
      have key : FixRel w (wr.setCell ⟨w.heap.size + 1, g, none⟩ (.int .u8 ((m : Int) % 256))) n k (.int .u64 ((m : Int) / 256)) (.int .i64 ((g : Int) - 1)) := by
        refine ⟨_, g, d + 1, m / 256, rfl, rfl, by simp, by omega, hmq, ?_, ?_, hu.setCell (.inl (Nat.le_succ _)) _⟩
        · rw [blk_set hg, set_mid g (m % 256).toUInt8 _ _ (by rw [hmv]; simp only [u8v, hx])]
          simp only [fixB, hmd]
        · exact blk_set_ne hb (by simp) _
      have KEY := Lib.hid key
      clear hu hg hb hmd hj hz hmv hmq hx key
      go_wp2_with fail
      refine ⟨KEY.out, by simp [intOf]; try omega⟩
end Go.Proofs.YtkabomkikbdigaaDoor
