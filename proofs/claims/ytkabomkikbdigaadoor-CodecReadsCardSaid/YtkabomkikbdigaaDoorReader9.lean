/- codec.Reader: Fixed, Text, Hash of a reader that is not there, or that nobody made. -/
import Derived.Test.YtkabomkikbdigaaDoorReader8
import Derived.Test.YtkabomkikbdigaaDoorTook
namespace Go.Proofs.YtkabomkikbdigaaDoor
open Go.RowKit Go.Lib

theorem IdleR.ptr {p : Value} {w : World} (h : IdleR p w) : ∃ a, p = .pointer a := by rcases h with rfl | ⟨b, rfl, _⟩ <;> exact ⟨_, rfl⟩
theorem fixed_idle {p : Value} {w : World} (h : IdleR p w) {B : Nat} {se : Nat → Addr} (G : Genv B se w) (k : Int) : Calls Tryd.prog 35 #[p, .int .i64 k] w fun e w' => e = .returned (.int .u64 0) ∧ w = w' := by
  have g2 := G.cell 2 (by decide) (by decide)
  simp only [gno] at g2
  have C := fail_idle h (sv se 2)
  have C2 := ready_idle h
  obtain ⟨a, rfl⟩ := h.ptr
  have tst : (decide (k < 1) = true) ∨ (decide (k < 1) = false ∧ decide (8 < k) = true) ∨ (decide (k < 1) = false ∧ decide (8 < k) = false) := by
    by_cases h1 : k < 1
    · exact .inl (by simpa using h1)
    · by_cases h2 : 8 < k
      · exact .inr (.inl ⟨by simpa using h1, by simpa using h2⟩)
      · exact .inr (.inr ⟨by simpa using h1, by simpa using h2⟩)
  clear h G
  rcases tst with h1 | ⟨h1, h2⟩ | ⟨h1, h2⟩
  · go_enter Tryd.func35, Tryd.ntmps35
    go_wp2_with fail
    refine C.mono ?_
    rintro e w1 ⟨rfl, rfl⟩
    go_wp2_with fail
    refine C2.mono ?_
    rintro e w1 ⟨rfl, rfl⟩
    go_wp2_with fail
    go_ret
    exact ⟨rfl, rfl⟩
  · go_enter Tryd.func35, Tryd.ntmps35
    go_wp2_with fail
    refine C.mono ?_
    rintro e w1 ⟨rfl, rfl⟩
    go_wp2_with fail
    refine C2.mono ?_
    rintro e w1 ⟨rfl, rfl⟩
    go_wp2_with fail
    go_ret
    exact ⟨rfl, rfl⟩
  · go_enter Tryd.func35, Tryd.ntmps35
    go_wp2_with fail
    refine C2.mono ?_
    rintro e w1 ⟨rfl, rfl⟩
    go_wp2_with fail
    go_ret
    exact ⟨rfl, rfl⟩
theorem text_idle {p : Value} {w : World} (h : IdleR p w) {B : Nat} {se : Nat → Addr} (G : Genv B se w) (k : Int) : Calls Tryd.prog 25 #[p, .int .i64 k] w fun e w' => e = .returned (.string ⟨#[]⟩) ∧ w = w' := by
  have g2 := G.cell 2 (by decide) (by decide)
  simp only [gno] at g2
  have C := fail_idle h (sv se 2)
  have C2 := ready_idle h
  obtain ⟨a, rfl⟩ := h.ptr
  clear h G
  by_cases h1 : k < 0
  · go_enter Tryd.func25, Tryd.ntmps25
    go_wp2_with fail
    refine C.mono ?_
    rintro e w1 ⟨rfl, rfl⟩
    go_wp2_with fail
    refine C2.mono ?_
    rintro e w1 ⟨rfl, rfl⟩
    go_wp2_with fail
    go_ret
    exact ⟨rfl, rfl⟩
  · have h2 : decide (k < 0) = false := by simpa using h1
    go_enter Tryd.func25, Tryd.ntmps25
    go_wp2_with fail
    refine C2.mono ?_
    rintro e w1 ⟨rfl, rfl⟩
    go_wp2_with fail
    go_ret
    exact ⟨rfl, rfl⟩
set_option maxRecDepth 8000 in
theorem hash_idle {p : Value} {w : World} (h : IdleR p w) : Calls Tryd.prog 56 #[p] w fun e w' => e = .returned (.agg (zeros32.map u8v).toArray) ∧ Ext w w' := by
  have X := ((Upd.refl none' w).alloc (.cells zero32 34)).alloc (.cells zero32 34)
  have C2 : Calls Tryd.prog 49 #[p] ((w.alloc (.cells zero32 34)).alloc (.cells zero32 34)) fun e w' => e = .returned (.bool false) ∧ (Ext w w' ∧ w'.heap[w.heap.size]? = some (.cells (zeros32.map u8v).toArray 34 (0, 0)) ∧ w'.heap[w.heap.size + 1]? = some (.cells (zeros32.map u8v).toArray 34 (0, 0))) := by
    refine (ready_idle (h.ext X)).mono ?_
    rintro e w' ⟨rfl, rfl⟩
    refine ⟨rfl, X, blk_alloc_lt (blk_alloc w _) _, ?_⟩
    have := blk_alloc (w.alloc (.cells zero32 34)) (.cells zero32 34)
    rwa [World.size_alloc] at this
  obtain ⟨a, rfl⟩ := h.ptr
  clear h X
  go_enter Tryd.func56, Tryd.ntmps56
  go_wp2_with fail
  refine C2.mono ?_
  rintro e w1 ⟨rfl, hX, hb0, hb1⟩
  have HOV := Lib.hid (show over (zeros32.map u8v) 0 (zeros32.map u8v) = zeros32.map u8v from over_all _ _ rfl)
  have c34 := fun j (v : Value) (hv : (zeros32.map u8v)[j]? = some v) => show w1.cell? ⟨w.heap.size + 1, 0 + j, none⟩ = some v by rw [cell_of_blk hb1]; simpa using hv
  have HC := Lib.hid c34
  have HBB := Lib.hid hb0
  have HSZ34 : Hid ((Tryd.prog.info? 34).map (·.size) = some (zeros32.map u8v).length) := hash_size'
  have HFit : Hid (0 + (zeros32.map u8v).length ≤ (zeros32.map u8v).length) := by show 0 + 32 ≤ 32; decide
  have HOne : Hid (∀ u ∈ zeros32.map u8v, u.oneCell' = true) := by
    show ∀ u ∈ zeros32.map u8v, u.oneCell' = true
    intro u hu; obtain ⟨q, _, rfl⟩ := List.mem_map.1 hu; rfl
  have HZ := Lib.hid (blk_setRow hb0 (zeros32.map u8v).toArray)
  have HU := Lib.hid (Upd.setRow hX (.inl (Nat.le_refl w.heap.size)) (zeros32.map u8v).toArray)
  clear hX c34 hb0 hb1 C2
  go_wp2_with (first
    | (refine wpList_loadAgg rfl 34 _ rfl (w.heap.size + 1) 0 rfl (zeros32.map u8v) Tryd.underlying34 rfl HSZ34.out HC.out ?_)
    | (refine wpList_storeAgg rfl 34 _ _ rfl w.heap.size 0 rfl (zeros32.map u8v) rfl HSZ34.out (zeros32.map u8v) 34 HBB.out HFit.out HOne.out ?_))
  rw [HOV.out]
  exact bodyPost_ret (v := .agg (zeros32.map u8v).toArray) (results_cell_row rfl _ _ w.heap.size 34 (zeros32.map u8v).toArray (0, 0) _ rfl HZ.out Tryd.underlying34 rfl (by have := HSZ34.out; simpa using this)) rfl ⟨rfl, HU.out⟩
end Go.Proofs.YtkabomkikbdigaaDoor
