/- cartularyref02's Reader: Fixed, Hash by contracts. -/
import Derived.Test.YtkabomkikbdigaaDoorRefr
namespace Go.Proofs.YtkabomkikbdigaaDoor
open Go.RowKit Go.Lib

theorem take_small (x : RdD) (n : Nat) (src : Int) (hn : n ≤ 9223372036854775807) : (x.take n src).1.length ≤ 9223372036854775807 := Nat.le_trans (take_short x n src).1 hn
set_option maxRecDepth 4000 in
set_option maxHeartbeats 1000000 in
theorem fixed_r {w : World} {b : Nat} {x : RdD} (h : RefAt w b x) (k : Int) :
    Calls Tryd.prog 57 #[.pointer (some ⟨b, 0, none⟩), .int .i64 k] w fun e w' => e = .returned (.int .u64 (x.fixed k).1) ∧ RefAt w' b (x.fixed k).2 ∧ Upd (one b) w w' := by
  have HH := Lib.hid h
  by_cases hbad : k < 1 ∨ 8 < k
  · have e1 : x.fixed k = (0, x.fail (some (2, none))) := if_pos hbad
    rw [e1]
    have tst : (decide (k < 1) = true) ∨ (decide (k < 1) = false ∧ decide (8 < k) = true) := by
      by_cases h1 : k < 1
      · exact .inl (by simp; omega)
      · exact .inr ⟨by simp; omega, by simp; omega⟩
    clear h e1 hbad
    rcases tst with t1 | ⟨t1, t2⟩
    all_goals
      go_enter Tryd.func57, Tryd.ntmps57
      go_wp2_with fail
      refine (plain_any 2 _).mono ?_
      rintro e w1 ⟨rfl, u1⟩
      have C := fail_r (HH.out.ext u1) (some (2, none)) (by simp) (fun k p h => by cases h; decide)
      have H1 := Lib.hid u1
      clear u1
      go_wp2_with fail
      refine C.mono ?_
      rintro e w2 ⟨rfl, R2, u2⟩
      go_wp2_with fail
      go_ret
      exact ⟨rfl, R2, (Upd.ext H1.out _).trans (u2.mono (fun _ _ h => h))⟩
  · obtain ⟨n, rfl⟩ : ∃ n : Nat, k = n := ⟨k.toNat, by omega⟩
    have e1 : x.fixed n = (beNum (x.take n x.pos).1, (x.take n x.pos).2) := by
      unfold RdD.fixed
      rw [if_neg hbad, Int.toNat_natCast]
      split
      · rename_i hf
        unfold RdD.take
        rw [if_neg (fun h => hf h.1), fail_keep x _ hf]
        rfl
      · rfl
    rw [e1]
    have c1 : w.cell? ⟨b, 1, none⟩ = some (.int .i64 x.pos) := cell_of_blk h.blk 1
    have C2 := take_r h n x.pos (by omega) (by have := h.pos; have := h.sz; omega)
    have t1 : decide ((n : Int) < 1) = false := by simp; omega
    have t2 : decide (8 < (n : Int)) = false := by simp; omega
    have hlen : (x.take n x.pos).1.length ≤ 8 := Nat.le_trans (take_short x n x.pos).1 (by omega)
    clear h e1 hbad
    generalize x.take n x.pos = t at *
    have HL := Lib.hid hlen
    have hle : t.1.length ≤ 9223372036854775807 := by omega
    clear hlen
    go_enter Tryd.func57, Tryd.ntmps57
    go_wp2_with fail
    refine C2.mono ?_
    rintro e w1 ⟨⟨ok, rfl⟩, R1, u1⟩
    have HR := Lib.hid R1
    have HU := Lib.hid u1
    clear R1 u1 C2 c1
    go_wp2_with fail
    go_loopw [7, 8] (fun nv iv wr => ∃ (j : Nat), iv = .int .i64 j ∧ j ≤ t.1.length ∧ nv = .int .u64 (beNum (t.1.take j)) ∧ wr = w1) (fun _ iv _ => t.1.length - (intOf iv).toNat)
    case atStart => exact ⟨0, rfl, by omega, rfl, rfl⟩
    case round =>
      obtain ⟨j, rfl, hj, rfl, rfl⟩ := hrel
      by_cases hlt : j < t.1.length
      · have htk : t.1.take (j + 1) = t.1.take j ++ [t.1[j]] := by rw [List.take_succ_eq_append_getElem hlt]
        have hs1 := beNum_snoc (t.1.take j) t.1[j]
        rw [← htk] at hs1
        have hb1 := beNum_lt (t.1.take (j + 1))
        have hlen8 : (t.1.take (j + 1)).length ≤ 8 := Nat.le_trans (by rw [List.length_take]; exact Nat.min_le_right _ _) HL.out
        have h64 : beNum (t.1.take (j + 1)) < 18446744073709551616 := by
          have : (256 : Nat) ^ (t.1.take (j + 1)).length ≤ 256 ^ 8 := Nat.pow_le_pow_right (by omega) hlen8
          have e : (256 : Nat) ^ 8 = 18446744073709551616 := rfl
          omega
        have hc := t.1[j].toNat_lt
        have hjj : (j : Int) < (t.1.length : Int) := by omega
        go_wp2_with fail
        exact ⟨⟨j + 1, by simp, by omega, by rw [hs1]; push_cast; rfl, trivial⟩, by simp [intOf]; omega⟩
      · obtain rfl : j = t.1.length := by omega
        go_wp2_with fail
        go_ret
        exact ⟨by simp, HR.out, HU.out⟩
/-- The hash's row while its bytes are laid. -/
def hrow (l : List UInt8) (j : Nat) : List UInt8 := l.take j ++ zeros32.drop j
theorem hrow_zero (l : List UInt8) : hrow l 0 = zeros32 := by simp [hrow]
theorem hrow_len (l : List UInt8) (j : Nat) (hj : j ≤ l.length) (hl : l.length ≤ 32) : (hrow l j).length = 32 := by
  unfold hrow
  rw [List.length_append, List.length_take, List.length_drop]
  have : zeros32.length = 32 := rfl
  omega
theorem hrow_set (l : List UInt8) (j : Nat) (hj : j < l.length) (hl : l.length ≤ 32) : ((hrow l j).map u8v).toArray.setIfInBounds j (u8v l[j]) = ((hrow l (j + 1)).map u8v).toArray := by
  apply Array.ext'
  simp only [Array.toList_setIfInBounds]
  have h1 := hrow_len l j (by omega) hl
  have h2 := hrow_len l (j + 1) (by omega) hl
  apply List.ext_getElem
  · simp [h1, h2]
  · intro i h3 h4
    simp only [List.getElem_set, List.getElem_map]
    by_cases hi : j = i
    · subst hi
      rw [if_pos rfl]
      congr 1
      simp only [hrow]
      rw [List.getElem_append_left (by simp; omega)]
      simp
    · rw [if_neg hi]
      congr 1
      simp only [hrow]
      by_cases hlt : i < j
      · rw [List.getElem_append_left (by simp; omega), List.getElem_append_left (by simp; omega)]
        simp
      · rw [List.getElem_append_right (by simp; omega), List.getElem_append_right (by simp; omega)]
        simp only [List.length_take, List.getElem_drop]
        congr 1
        omega
theorem hrow_all (l : List UInt8) (h : l.length = 32 ∨ l = []) : hrow l l.length = hashOf l := by
  rcases h with h | h
  · unfold hrow hashOf
    rw [if_pos h, List.take_length, h]
    exact List.append_nil l
  · subst h; rfl
set_option maxRecDepth 8000 in
set_option maxHeartbeats 1000000 in
theorem hash_r {w : World} {b : Nat} {x : RdD} (h : RefAt w b x) :
    Calls Tryd.prog 60 #[.pointer (some ⟨b, 0, none⟩)] w fun e w' => e = .returned (.agg (x.hash.1.map u8v).toArray) ∧ RefAt w' b x.hash.2 ∧ Upd (one b) w w' := by
  have HH := Lib.hid h
  have e1 : x.hash = (hashOf (x.take 32 x.pos).1, (x.take 32 x.pos).2) := by
    unfold RdD.hash
    split
    · rename_i hf
      unfold RdD.take
      rw [if_neg (fun h => hf h.1), fail_keep x _ hf]
      rfl
    · rfl
  rw [e1]
  have X := ((Upd.refl none' w).alloc (.cells zero32 34)).alloc (.cells zero32 34)
  have h1 := h.ext X
  have hbb := lt_of_blk h.blk
  have c1 : ((w.alloc (.cells zero32 34)).alloc (.cells zero32 34)).cell? ⟨b, 1, none⟩ = some (.int .i64 x.pos) := cell_of_blk h1.blk 1
  have C : Calls Tryd.prog 66 #[.pointer (some ⟨b, 0, none⟩), .int .i64 32, .int .i64 x.pos] ((w.alloc (.cells zero32 34)).alloc (.cells zero32 34)) fun e w' =>
      (∃ ok, e = .returned (.tuple #[.string (str (x.take 32 x.pos).1), .bool ok])) ∧ RefAt w' b (x.take 32 x.pos).2 ∧ Upd (one b) w w' ∧
      w'.heap[w.heap.size]? = some (.cells (zeros32.map u8v).toArray 34 (0, 0)) ∧ w'.heap[w.heap.size + 1]? = some (.cells (zeros32.map u8v).toArray 34 (0, 0)) ∧ w.heap.size + 2 ≤ w'.heap.size := by
    refine (take_r h1 32 x.pos (by decide) (by have := h.pos; have := h.sz; omega)).mono ?_
    rintro e w' ⟨h2, h3, u⟩
    refine ⟨h2, h3, (Upd.ext X _).trans (u.mono (fun _ _ h => h)), u.blk (blk_alloc_lt (blk_alloc w _) _) (fun e => by have e : w.heap.size = b := e; omega), u.blk ?_ (fun e => by have e : w.heap.size + 1 = b := e; omega), by have := u.size; simpa using this⟩
    have := blk_alloc (w.alloc (.cells zero32 34)) (.cells zero32 34)
    rwa [World.size_alloc] at this
  have hl := take_len x 32 x.pos
  have hl32 := (take_short x 32 x.pos).1
  clear h h1 X e1
  generalize x.take 32 x.pos = t at *
  have HC := Lib.hid C
  have HL := Lib.hid hl
  clear C hl
  go_enter Tryd.func60, Tryd.ntmps60
  go_wp2_with fail
  refine HC.out.mono ?_
  rintro e w1 ⟨⟨ok, rfl⟩, R1, u1, hb0, hb1, hsz⟩
  have HR := Lib.hid R1
  have HU := Lib.hid u1
  have HB0 := Lib.hid hb0
  have HB1 := Lib.hid hb1
  clear R1 u1 hb0 hb1 c1 HC
  go_wp2_with fail
  go_loopw [6] (fun iv wr => ∃ (j : Nat), iv = .int .i64 j ∧ j ≤ t.1.length ∧ wr.heap[w.heap.size + 1]? = some (.cells ((hrow t.1 j).map u8v).toArray 34 (0, 0)) ∧ Upd (one (w.heap.size + 1)) w1 wr) (fun iv _ => t.1.length - (intOf iv).toNat)
  case atStart => exact ⟨0, rfl, by omega, by rw [hrow_zero]; exact HB1.out, Upd.refl _ _⟩
  case round =>
    obtain ⟨j, rfl, hj, hbj, uj⟩ := hrel
    have HBJ := Lib.hid hbj
    have HUJ := Lib.hid uj
    by_cases hlt : j < t.1.length
    · have hj32 : (j : Int) < 32 := by omega
      have cj : wr.cell? ⟨w.heap.size + 1, j, none⟩ = some (u8v ((hrow t.1 j)[j]'(by rw [hrow_len _ _ hj hl32]; omega))) := by rw [cell_of_blk hbj, List.getElem?_toArray, List.getElem?_map, List.getElem?_eq_getElem (by rw [hrow_len _ _ hj hl32]; omega)]; rfl
      have fj := free_of_blk hbj j
      have hjj : (j : Int) < (t.1.length : Int) := by omega
      have hset := hrow_set t.1 j hlt hl32
      have HS := Lib.hid hset
      clear hbj uj hset
      go_wp2_with fail
      have hb2 := blk_set HBJ.out j (u8v t.1[j])
      rw [HS.out] at hb2
      exact ⟨⟨j + 1, by simp, by omega, hb2, HUJ.out.setCell (p := ⟨w.heap.size + 1, j, none⟩) (.inr (show one _ _ from rfl)) _⟩, by simp [intOf]; omega⟩
    · obtain rfl : j = t.1.length := by omega
      rw [hrow_all t.1 HL.out] at hbj
      have hL : (hashOf t.1).length = 32 := hashOf_len _
      generalize hlv : hashOf t.1 = lv at hbj hL ⊢
      have HLV := Lib.hid hlv
      clear hlv
      have hB0 := uj.blk HB0.out (fun e => by have e : w.heap.size = w.heap.size + 1 := e; omega)
      have c34 := fun j (v : Value) (hv : (lv.map u8v)[j]? = some v) => show wr.cell? ⟨w.heap.size + 1, 0 + j, none⟩ = some v by rw [cell_of_blk hbj]; simpa using hv
      have HC34 := Lib.hid c34
      have HBB := Lib.hid hB0
      have HSZ34 : Hid ((Tryd.prog.info? 34).map (·.size) = some (lv.map u8v).length) := by rw [List.length_map, hL]; exact hash_size'
      have HFit : Hid (0 + (lv.map u8v).length ≤ (zeros32.map u8v).length) := by show 0 + (lv.map u8v).length ≤ 32; rw [List.length_map, hL]; exact Nat.le_refl _
      have HOne : Hid (∀ u ∈ lv.map u8v, u.oneCell' = true) := by
        show ∀ u ∈ lv.map u8v, u.oneCell' = true
        intro u hu; obtain ⟨q, _, rfl⟩ := List.mem_map.1 hu; rfl
      have HOV := Lib.hid (show over (zeros32.map u8v) 0 (lv.map u8v) = lv.map u8v from over_all _ _ (by rw [List.length_map, List.length_map, hL]; rfl))
      have HZ := Lib.hid (blk_setRow hB0 (lv.map u8v).toArray)
      have U2 : Upd (one b) w (wr.setRow w.heap.size (lv.map u8v).toArray) := (HU.out.then (uj.mono (T := one (w.heap.size + 1)) (fun _ _ h => h)) (fun k hk e => by have e : k = w.heap.size + 1 := e; omega)).setRow (.inl (Nat.le_refl _)) _
      have R2 : RefAt (wr.setRow w.heap.size (lv.map u8v).toArray) b t.2 := (HR.out.upd uj (fun e => by have e : b = w.heap.size + 1 := e; omega)).upd ((Upd.refl (one w.heap.size) wr).setRow (.inr (show one _ _ from rfl)) _) (fun e => by have e : b = w.heap.size := e; omega)
      have HU2 := Lib.hid U2
      have HR2 := Lib.hid R2
      clear hbj uj hB0 c34 U2 R2 HR HU HB0 HB1 HBJ HUJ hL
      go_wp2_with (first
        | (refine wpList_loadAgg rfl 34 _ rfl (w.heap.size + 1) 0 rfl (lv.map u8v) Tryd.underlying34 rfl HSZ34.out HC34.out ?_)
        | (refine wpList_storeAgg rfl 34 _ _ rfl w.heap.size 0 rfl (lv.map u8v) rfl HSZ34.out (zeros32.map u8v) 34 HBB.out HFit.out HOne.out ?_))
      rw [HOV.out]
      exact bodyPost_ret (v := .agg (lv.map u8v).toArray) (results_cell_row rfl _ _ w.heap.size 34 (lv.map u8v).toArray (0, 0) _ rfl HZ.out Tryd.underlying34 rfl (by have := HSZ34.out; simpa using this)) rfl ⟨by rw [HLV.out], HR2.out, HU2.out⟩
end Go.Proofs.YtkabomkikbdigaaDoor
